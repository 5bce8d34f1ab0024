/- SpaceTells: the law returns true at every input, and each argument reads as it did. No condition. (The frame is the kit's own, printed by a program of ours.) -/
import Derived.Test.YtienlhnbmobinaaRows
import Derived.Test.YtienlhnbmobinaaOpenFlat

import Derived.Test.YtienlhnbmobinaaTextsIn
import Derived.Test.YtienlhnbmobinaaNatsIn
import Derived.Test.YtienlhnbmobinaaSpaceTellsWalk

import Derived.Test.YtienlhnbmobinaaSpaceTellsWalk
import Derived.WalkKit
import Derived.ProofKit
import Derived.OpenShut
import Derived.ShutString
import Derived.ChangeOld
import Derived.Below
import Derived.SizedLaws
namespace Go.Proofs.Ytienlhnbmobinaa.spaceTells
open Go.ChangeShapes Go.WideShapes Go.ChangeAt Go.RowKit
open Go.ChangeMaps (open_string shut_string)
set_option linter.unusedVariables false

theorem own : ownKnob Try.prog.godebug = none := by kernel_rfl
theorem laidOut : laidOutB Try.prog = true := by kernel_rfl

set_option maxRecDepth 100000 in
theorem lifted (os : Os) (started : os.Started) (H : Type) (enc : TypeId × Value → H) :
    ReturnsInHanded {} Try.checked os 5 .any (Rows.spaceTellsSpec.pre6 enc Try.prog Try.f5 Rows.spaceTellsRow.domain false) (Rows.spaceTellsSpec.post enc Try.prog Try.f5 false true false false) := by
  refine returnsInHanded_of_change_sized (C := Try.checked) own started (by kernel_rfl) Try.func5
    (ChangeSpec.witness6 (enc := enc) (C := Try.checked) false ⟨#[], #[.int .u32 0, .int .i64 0, .slice none 0 0, .agg #[.int .u8 0, .int .u8 0, .int .u32 0, .int .u64 0, .int .u32 0, .slice none 0 0], .bool false, .int .u32 0], []⟩ 8 (by kernel_rfl) (by kernel_rfl) (by kernel_rfl) (by kernel_rfl)) ?_
  intro W base args ds gs before hval0 hW hcnd hsz0 _
  have hval : ∀ (j : Nat) t v, Try.f5.params[j]? = some t → args[j]? = some v → Value.okWide Try.prog W .any base t v := hval0
  have hW' := hW
  obtain ⟨p, q, hA0, hV, rfl, hfz, hnd⟩ := hW
  have hA : DataW.TrodAll enc Try.prog W 0 (fun _ => true) true Try.f5.params.toList args.toList ds p := hA0
  have hsz : ∀ n ∈ DataW.weightsEach Try.prog (Try.f5.params.toList ++ Rows.spaceTellsSpec.plain.varTypes Try.prog) (ds ++ gs), n ≤ 140737488351232 := by
    intro n hn
    have := List.all_eq_true.1 hsz0 n hn
    have h2 : n ≤ reachBytes := of_decide_eq_true this
    exact h2
  rw [Try.params5] at hA hval hsz
  obtain ⟨v0, vs0, d0, ds0, p0, q0, hargs, rfl, rfl, h0, r0⟩ := trodAll_cons hA
  obtain ⟨v1, vs1, d1, ds1, p1, q1, rfl, rfl, rfl, h1, r1⟩ := trodAll_cons r0
  obtain ⟨v2, vs2, d2, ds2, p2, q2, rfl, rfl, rfl, h2, r2⟩ := trodAll_cons r1
  obtain ⟨v3, vs3, d3, ds3, p3, q3, rfl, rfl, rfl, h3, r3⟩ := trodAll_cons r2
  obtain ⟨v4, vs4, d4, ds4, p4, q4, rfl, rfl, rfl, h4, r4⟩ := trodAll_cons r3
  obtain ⟨v5, vs5, d5, ds5, p5, q5, rfl, rfl, rfl, h5, r5⟩ := trodAll_cons r4
  obtain ⟨rfl, rfl, rfl⟩ := trodAll_nil r5
  obtain rfl : args = #[v0, v1, v2, v3, v4, v5] := by cases args; simp_all
  obtain ⟨rfl, rfl⟩ := trodVars_none hV
  have lt0 : ∀ x ∈ p0, x.block < W.heap.size := by obtain ⟨m, hm⟩ := h0; exact DataW.trod_lt m _ _ _ hm
  have lt1 : ∀ x ∈ p1, x.block < W.heap.size := by obtain ⟨m, hm⟩ := h1; exact DataW.trod_lt m _ _ _ hm
  have lt2 : ∀ x ∈ p2, x.block < W.heap.size := by obtain ⟨m, hm⟩ := h2; exact DataW.trod_lt m _ _ _ hm
  have lt3 : ∀ x ∈ p3, x.block < W.heap.size := by obtain ⟨m, hm⟩ := h3; exact DataW.trod_lt m _ _ _ hm
  have lt4 : ∀ x ∈ p4, x.block < W.heap.size := by obtain ⟨m, hm⟩ := h4; exact DataW.trod_lt m _ _ _ hm
  have lt5 : ∀ x ∈ p5, x.block < W.heap.size := by obtain ⟨m, hm⟩ := h5; exact DataW.trod_lt m _ _ _ hm
  have hsz0 : ∀ n ∈ d0.weights Try.prog 22, n ≤ 140737488351232 := fun n hn => hsz n (DataW.weights_mem_each (j := 0) (t := 22) (d := d0) rfl rfl n hn)
  have hsz1 : ∀ n ∈ d1.weights Try.prog 3, n ≤ 140737488351232 := fun n hn => hsz n (DataW.weights_mem_each (j := 1) (t := 3) (d := d1) rfl rfl n hn)
  have hsz2 : ∀ n ∈ d2.weights Try.prog 55, n ≤ 140737488351232 := fun n hn => hsz n (DataW.weights_mem_each (j := 2) (t := 55) (d := d2) rfl rfl n hn)
  have hsz3 : ∀ n ∈ d3.weights Try.prog 26, n ≤ 140737488351232 := fun n hn => hsz n (DataW.weights_mem_each (j := 3) (t := 26) (d := d3) rfl rfl n hn)
  have hsz4 : ∀ n ∈ d4.weights Try.prog 4, n ≤ 140737488351232 := fun n hn => hsz n (DataW.weights_mem_each (j := 4) (t := 4) (d := d4) rfl rfl n hn)
  have hsz5 : ∀ n ∈ d5.weights Try.prog 22, n ≤ 140737488351232 := fun n hn => hsz n (DataW.weights_mem_each (j := 5) (t := 22) (d := d5) rfl rfl n hn)
  obtain ⟨a0, rfl, _, _, ow0⟩ := open_int Try.underlying22 (hval 0 22 v0 rfl rfl) h0
  obtain ⟨a0, rfl, w0⟩ := natOf ow0 (by decide) (b := 256 ^ 4) (by decide)
  obtain ⟨a1, rfl, _, _, w1⟩ := open_int Try.underlying3 (hval 1 3 v1 rfl rfl) h1
  have y1 : -9223372036854775808 ≤ a1 ∧ a1 ≤ 9223372036854775807 := by
    have : IntKind.i64.min ≤ a1 ∧ a1 ≤ IntKind.i64.max := by simpa [Lit.wf] using w1
    exact ⟨this.1, this.2⟩
  obtain ⟨a2, len2, cap2, rfl⟩ := okWide_slice Try.underlying55 (hval 2 55 v2 rfl rfl)
  obtain ⟨z2, w2⟩ : ∃ zs, IsRow .u32 W a2 len2 cap2 zs := by
    obtain ⟨fuel, hf⟩ := h2
    rcases open_ints Try.underlying55 Try.underlying22 (by kernel_rfl) hf with ⟨hcs, _⟩ | ⟨x, l, c, zs, hcs, _, hl, hm, hz, _, hcell, hwz⟩
    · simp [Value.cells] at hcs
      obtain ⟨rfl, rfl, rfl⟩ := hcs
      exact ⟨[], .inl ⟨rfl, rfl, rfl, rfl⟩⟩
    · simp [Value.cells] at hcs
      obtain ⟨rfl, rfl, rfl⟩ := hcs
      exact ⟨zs, .inr ⟨_, rfl, hl, hm, by simpa using hz, hcell, hwz⟩⟩
  obtain ⟨X2, NX2, NB2⟩ := n32_of_row w2
  have fl3 := open_flat [.u8, .u8, .u32, .u64, .u32, .raw 24] Try.underlying26 (by kernel_rfl) (by kernel_rfl) (hval 3 26 v3 rfl rfl) h3
  obtain ⟨cs3, rfl, fit3⟩ := fl3
  simp only [Fits] at fit3
  obtain ⟨a3_0, _, rfl, w3_0, a3_1, _, rfl, w3_1, a3_2, _, rfl, w3_2, a3_3, _, rfl, w3_3, a3_4, _, rfl, w3_4, a3_5, _, rfl, w3_5, rfl⟩ := fit3
  obtain ⟨V3_5, X3_5, ev3_5, T3_5, Z3_5⟩ := texts_of_flat (P := Try.prog) [.u8, .u8, .u32, .u64, .u32, .raw 24] (by kernel_rfl) 5 rfl Try.underlying24 Try.underlying9 (by kernel_rfl) h3
  have ew3_5 : a3_5 = V3_5 := by simpa using ev3_5
  rw [← ew3_5] at T3_5
  obtain ⟨a4, rfl, _⟩ := open_bool Try.underlying4 (hval 4 4 v4 rfl rfl) h4
  obtain ⟨a5, rfl, _, _, ow5⟩ := open_int Try.underlying22 (hval 5 22 v5 rfl rfl) h5
  obtain ⟨a5, rfl, w5⟩ := natOf ow5 (by decide) (b := 256 ^ 4) (by decide)
  clear hA0 hval0
  refine (spaceTellsLaw_any a0 a1 (.slice a2 len2 cap2) X2 ⟨a3_0, a3_1, a3_2, a3_3, a3_4, X3_5⟩ a3_5 a4 a5 W w0 y1 NX2 NB2 ⟨w3_0, w3_1, w3_2, w3_3, w3_4⟩ T3_5 (fun r hr => hsz3 _ (Z3_5 r hr)) w5).mono fun e W' ⟨he, bel⟩ => ?_
  subst he
  exact ⟨_, rfl, _, _, _, [], _, [], hW', (trodAll_cons_mk (shut_bool Try.underlying4 _) trodAll_mk0), (trodAll_cons_mk (Below.trod laidOut (by kernel_rfl) (of_decide_eq_true (by kernel_rfl)) h0 bel lt0) (trodAll_cons_mk (Below.trod laidOut (by kernel_rfl) (of_decide_eq_true (by kernel_rfl)) h1 bel lt1) (trodAll_cons_mk (Below.trod laidOut (by kernel_rfl) (of_decide_eq_true (by kernel_rfl)) h2 bel lt2) (trodAll_cons_mk (Below.trod laidOut (by kernel_rfl) (of_decide_eq_true (by kernel_rfl)) h3 bel lt3) (trodAll_cons_mk (Below.trod laidOut (by kernel_rfl) (of_decide_eq_true (by kernel_rfl)) h4 bel lt4) (trodAll_cons_mk (Below.trod laidOut (by kernel_rfl) (of_decide_eq_true (by kernel_rfl)) h5 bel lt5) trodAll_mk0)))))), rfl, bel.frame _, fun h => by cases h⟩

theorem over : Rows.spaceTellsRow.holds Try.pinned (OpenSpec.ofChange Rows.spaceTellsSpec) :=
  OpenClaim.holds_of_wide 5 Try.f5 rfl rfl rfl rfl rfl rfl rfl ⟨rfl, rfl, rfl, rfl, rfl⟩ rfl rfl rfl rfl rfl (by kernel_rfl) Try.func5 (by kernel_rfl)
    (of_decide_eq_true (by kernel_rfl)) (by unfold Func.isWrapper; first | (rw [if_pos (by decide +kernel)]; kernel_rfl) | (rw [if_neg (by decide +kernel)]; exact ⟨rfl, rfl⟩))
    (fun os started H enc _ => lifted os started H enc)

/-- The statement. -/
theorem proved : Rows.SpaceTellsSaid := over
#print axioms proved
end Go.Proofs.Ytienlhnbmobinaa.spaceTells
