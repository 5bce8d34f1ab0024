/- chapter 24: the open views in a map. -/
import Derived.Test.YtoeaakadpillnaaRows
import Derived.Test.YtoeaakadpillnaaViewNil
import Derived.Test.YtoeaakadpillnaaNumsIn
import Derived.Test.YtoeaakadpillnaaViewCopied
import Derived.Test.YtoeaakadpillnaaViewWorks
import Derived.Test.YtoeaakadpillnaaViewRef
import Derived.Test.YtoeaakadpillnaaViewOf
import Derived.Test.YtoeaakadpillnaaViewSame
import Derived.Test.YtoeaakadpillnaaViewSees
import Derived.Test.YtoeaakadpillnaaViewNums
import Derived.Test.YtoeaakadpillnaaLockRefTake
import Derived.Test.YtoeaakadpillnaaLockPlain
import Derived.Test.YtoeaakadpillnaaSortUTop
import Derived.Test.YtoeaakadpillnaaLockRef
import Derived.Test.YtoeaakadpillnaaKept
import Derived.Test.YtoeaakadpillnaaQuietTail
import Derived.Test.YtoeaakadpillnaaAppAny
import Derived.Deep.LoopGhost
import Derived.Deep.CutBlock
import Derived.Lib.SliceRun
import Derived.Laws.ResultCell
import Derived.Maps.OwnSet
import Derived.Maps.RangeWalk
import Derived.WalkKit
import Derived.WalkLawsBesides
import Derived.WalkSpells
import Derived.LoopTactic
import Derived.WalkMore
import Derived.LoopN
import Derived.Laws.BitsAllLaws
import Derived.Laws.IdiomStrings
import Derived.BigQuiet
import Derived.Deep.QuietTactic
import Derived.Deep.DeepCutAuto
import Derived.Deep.RegionHeld3
import Derived.Deep.DrawnRows
import Derived.Lib.Hide
import Derived.Outline
import Derived.Deep.DeepMust
import Derived.Handy
namespace Go.Proofs.Ytoeaakadpillnaa
open Go.RowKit
set_option linter.unusedVariables false
set_option linter.unusedSimpArgs false

open Go.Maps
/-- A view that is open. -/
structure VE where
  own : Nat
  next : Nat
  b : Option Addr
  c : Nat
  xs : List Nat
abbrev VE.sv (e : VE) : Value := .slice e.b e.xs.length e.c
abbrev VE.val (e : VE) : Value := viewV e.own e.next e.sv
/-- Which views are open. -/
abbrev VT := Int → Option VE
def VT.put (T : VT) (k : Int) (e : VE) : VT := fun j => if j = k then some e else T j
def VT.del (T : VT) (k : Int) : VT := fun j => if j = k then none else T j
def heldE : Value → Option (DataW Value × List MemPlace) := fun v => some (.held v, [])
/-- What a map is to the open views. -/
structure VwD (D : DataW Value) (T : VT) (n : Nat) : Prop where
  has : ∀ k : Int, Maps.has D (.int .i64 k) = (T k).isSome
  val : ∀ (k : Int) (e : VE), T k = some e → ∀ z, D.atKey (.int .i64 k) z = .held e.val
  size : Maps.size D = n
theorem i64_key (k : Int) : WideAt.IsKeyLit (.int .i64 k) := trivial
theorem i64_ne {k j : Int} (h : k ≠ j) : (Lit.int .i64 k) ≠ .int .i64 j := fun e => h (by injection e)
theorem VwD.empty : VwD (.map []) (fun _ => none) 0 := ⟨fun k => rfl, fun k t h => (by cases h), rfl⟩
theorem VwD.put {D : DataW Value} {T : VT} {n : Nat} (h : VwD D T n) (hD : Tidy D) {k : Int} (hk : T k = none) (e : VE) : VwD (D.put (.int .i64 k) (.held e.val)) (T.put k e) (n + 1) := by
  refine ⟨fun j => ?_, fun j s hs z => ?_, ?_⟩
  · unfold VT.put
    by_cases hj : j = k
    · subst hj
      rw [if_pos rfl, has_put_same hD.isMap (i64_key _)]
      rfl
    · rw [if_neg hj, has_put_other (i64_ne hj)]
      exact h.has j
  · unfold VT.put at hs
    by_cases hj : j = k
    · subst hj
      rw [if_pos rfl] at hs
      injection hs with hs
      subst hs
      exact atKey_put_same hD.isMap (i64_key _) _ _
    · rw [if_neg hj] at hs
      rw [atKey_put_other (i64_ne hj)]
      exact h.val j s hs z
  · rw [size_put hD, h.has k, hk, ← h.size]
    rfl
theorem VwD.del {D : DataW Value} {T : VT} {n : Nat} (h : VwD D T (n + 1)) (hD : Tidy D) {k : Int} (hk : (T k).isSome = true) : VwD (D.del (.int .i64 k)) (T.del k) n := by
  refine ⟨fun j => ?_, fun j s hs z => ?_, ?_⟩
  · unfold VT.del
    by_cases hj : j = k
    · subst hj
      rw [if_pos rfl, has_del_same]
      rfl
    · rw [if_neg hj, has_del_other (i64_ne hj)]
      exact h.has j
  · unfold VT.del at hs
    by_cases hj : j = k
    · subst hj
      rw [if_pos rfl] at hs
      cases hs
    · rw [if_neg hj] at hs
      rw [atKey_del_other (i64_ne hj)]
      exact h.val j s hs z
  · have h1 := size_del (k := .int .i64 k) hD
    rw [h.has k, hk, h.size] at h1
    simp at h1
    omega

theorem vw_key : Maps.Keyed Try.prog 3 := Go.Maps.int_keyed Try.underlying3
theorem vw_keyOf {k : Int} (h1 : -9223372036854775808 ≤ k) (h2 : k ≤ 9223372036854775807) : keyOf Try.prog 3 (.int .i64 k) = some (.int .i64 k) :=
  Go.Maps.keyOf_int_mk Try.underlying3 (by unfold Lit.wf; simp [IntKind.min, IntKind.max, IntKind.bits, IntKind.signed]; omega)
theorem zero_view (w : World) : (zeroValue 50).run Try.prog w = .ok (viewV 0 0 (.slice none 0 0)) w := by kernel_rfl
/-- The views in memory. -/
structure VwAt (w : World) (g m base : Nat) (T : VT) (n : Nat) : Prop where
  own : w.heap[g]? = some (.cells #[.map (some m)] 130 (0, 0))
  ex : ∃ D, w.ownsMap Try.prog 3 heldE m n D ∧ VwD D T n
  rows : ∀ k e, T k = some e → w.ownsRow base 27 1 e.sv e.xs.length (nums e.xs) ∧ e.xs.length ≤ 1000000
  dom : ∀ k, (T k).isSome = true → 1 ≤ k ∧ k ≤ 64
  hg : g < base
  hm : m < base
  small : n ≤ 1000
section
variable {w w' : World} {g m base n : Nat} {T : VT}
theorem VwAt.ne (h : VwAt w g m base T n) : g ≠ m := by
  rintro rfl
  obtain ⟨D, ho, _⟩ := h.ex
  obtain ⟨es, c, hb, _⟩ := ho
  rw [h.own] at hb
  cases hb
theorem VwAt.lt (h : VwAt w g m base T n) : g < w.heap.size ∧ m < w.heap.size := by
  obtain ⟨D, ho, _⟩ := h.ex
  exact ⟨blk_lt h.own, ho.lt⟩
theorem VwAt.c0 (h : VwAt w g m base T n) : w.cell? ⟨g, 0, none⟩ = some (.map (some m)) := by rw [blk_cell h.own]; rfl
theorem VwAt.kept {p : Nat → Prop} (h : VwAt w g m base T n) (hk : OthersKept w w' p) (h1 : ¬ p g) (h2 : ¬ p m) (h3 : ∀ k e, T k = some e → ∀ x, e.sv.ownBlock = some x → ¬ p x) : VwAt w' g m base T n := by
  obtain ⟨D, ho, hD⟩ := h.ex
  refine ⟨hk.heap h.own h1, ⟨D, ?_, hD⟩, fun k e he => ⟨hk.owns (h.rows k e he).1 (h3 k e he), (h.rows k e he).2⟩, h.dom, h.hg, h.hm, h.small⟩
  obtain ⟨es, c, hb, hr⟩ := ho
  exact ⟨es, c, hk.heap hb h2, hr⟩
theorem VwAt.below (h : VwAt w g m base T n) (hb : Below w.heap.size w w') : VwAt w' g m base T n := h.kept (p := fun _ => False) (OthersKept.of_below hb) id id (fun _ _ _ _ _ => id)
set_option maxRecDepth 100000 in
theorem VwAt.look (h : VwAt w g m base T n) {k : Int} (h1 : -9223372036854775808 ≤ k) (h2 : k ≤ 9223372036854775807) {e : VE} (he : T k = some e) :
    (Instr.lookup 128 (.map (some m)) (.int .i64 k) true).run Try.prog w = .ok (.tuple #[e.val, .bool true]) w := by
  obtain ⟨D, ho, hD⟩ := h.ex
  obtain ⟨v, ps, hrun, hv⟩ := ho.look_ok vw_key Try.underlying128 (zero_view w) (zd := .held (viewV 0 0 (.slice none 0 0))) (zp := []) rfl (vw_keyOf h1 h2)
  rw [hrun, hD.has, he]
  rw [hD.val k e he] at hv
  injection hv with hv
  injection hv with hv _
  injection hv with hv
  rw [hv]
  rfl
set_option maxRecDepth 100000 in
theorem VwAt.lookN (h : VwAt w g m base T n) {k : Int} (h1 : -9223372036854775808 ≤ k) (h2 : k ≤ 9223372036854775807) (he : T k = none) :
    (Instr.lookup 128 (.map (some m)) (.int .i64 k) true).run Try.prog w = .ok (.tuple #[viewV 0 0 (.slice none 0 0), .bool false]) w := by
  obtain ⟨D, ho, hD⟩ := h.ex
  obtain ⟨v, ps, hrun, hv⟩ := ho.look_ok vw_key Try.underlying128 (zero_view w) (zd := .held (viewV 0 0 (.slice none 0 0))) (zp := []) rfl (vw_keyOf h1 h2)
  have hh := hD.has k
  rw [he] at hh
  rw [hrun, hh]
  rw [atKey_of_not_has hh] at hv
  injection hv with hv
  injection hv with hv _
  injection hv with hv
  rw [hv]
  rfl
set_option maxRecDepth 100000 in
theorem VwAt.len (h : VwAt w g m base T n) (ty : TypeId) : (Builtin.len_ #[128] ty #[.map (some m)]).run Try.prog w = .ok (.int .i64 (n : Nat)) w := by
  obtain ⟨D, ho, hD⟩ := h.ex
  rw [ho.len Try.underlying128 ty, hD.size]
set_option maxRecDepth 100000 in
theorem VwAt.upd (h : VwAt w g m base T n) {k : Int} (h1 : 1 ≤ k) (h2 : k ≤ 64) (hk : T k = none) (hn : n < 1000) (e : VE) (hr : w.ownsRow base 27 1 e.sv e.xs.length (nums e.xs)) (hl : e.xs.length ≤ 1000000) :
    ∃ w', (Instr.mapUpdate 128 (.map (some m)) (.int .i64 k) e.val).run Try.prog w = .ok () w' ∧ VwAt w' g m base (T.put k e) (n + 1) ∧ w.grownBy w' (some m) := by
  obtain ⟨D, ho, hD⟩ := h.ex
  obtain ⟨w', hrun, ho', hg⟩ := ho.update vw_key Try.underlying128 (by unfold maxLen; omega) (vw_keyOf (k := k) (by omega) (by omega)) (d := .held e.val) (ps := []) (val := e.val) rfl
  have hne := h.ne
  have hmb := h.hm
  refine ⟨w', hrun, ⟨(hg.block g (blk_lt h.own) (fun e => hne (by injection e))).trans h.own, ⟨_, ho', hD.put (ho.tidy vw_key) hk e⟩, fun j e' he' => ?_, fun j hj => ?_, h.hg, h.hm, by omega⟩, hg⟩
  · unfold VT.put at he'
    split at he'
    · injection he' with he'
      subst he'
      refine ⟨hr.kept hg ?_, hl⟩
      cases hv : e.sv.ownBlock with
      | none => exact .inl rfl
      | some x => exact .inr (fun e2 => by have := own_block hr x hv; injection e2 with e2; omega)
    · refine ⟨(h.rows j e' he').1.kept hg ?_, (h.rows j e' he').2⟩
      cases hv : e'.sv.ownBlock with
      | none => exact .inl rfl
      | some x => exact .inr (fun e2 => by have := own_block (h.rows j e' he').1 x hv; injection e2 with e2; omega)
  · unfold VT.put at hj
    split at hj
    · rename_i e2; subst e2; exact ⟨h1, h2⟩
    · exact h.dom j hj
set_option maxRecDepth 100000 in
theorem VwAt.drop (h : VwAt w g m base T (n + 1)) {k : Int} (hk : (T k).isSome = true) (ty : TypeId) :
    ∃ w', (Builtin.delete_ #[128, 3] ty #[.map (some m), .int .i64 k]).run Try.prog w = .ok (.tuple #[]) w' ∧ VwAt w' g m base (T.del k) n ∧ w.grownBy w' (some m) := by
  obtain ⟨D, ho, hD⟩ := h.ex
  obtain ⟨h1, h2⟩ := h.dom k hk
  obtain ⟨w', hrun, ho', ht⟩ := ho.drop vw_key Try.underlying128 (vw_keyOf (k := k) (by omega) (by omega)) ty
  have hg := ht.grown
  have hne := h.ne
  have hmb := h.hm
  have hsm := h.small
  have hD2 := hD.del (ho.tidy vw_key) hk
  refine ⟨w', hrun, ⟨(hg.block g (blk_lt h.own) (fun e => hne (by injection e))).trans h.own, ⟨_, ?_, hD2⟩, fun j e' he' => ?_, fun j hj => ?_, h.hg, h.hm, by omega⟩, hg⟩
  · obtain ⟨es, c, hb, F, hs, hd⟩ := ho'
    refine ⟨es, c, hb, F, ?_, hd⟩
    have h1 := hD2.size
    rw [hd] at h1
    simp [Maps.size, length_sorted] at h1
    omega
  · unfold VT.del at he'
    split at he'
    · cases he'
    · refine ⟨(h.rows j e' he').1.kept hg ?_, (h.rows j e' he').2⟩
      cases hv : e'.sv.ownBlock with
      | none => exact .inl rfl
      | some x => exact .inr (fun e2 => by have := own_block (h.rows j e' he').1 x hv; injection e2 with e2; omega)
  · unfold VT.del at hj
    split at hj
    · cases hj
    · exact h.dom j hj
end

end Go.Proofs.Ytoeaakadpillnaa
