/- PageRoom: the law returns true at every input, and each argument reads as it did. No condition. (The frame is the kit's own, printed by a program of ours.) -/
import Derived.Test.YtienlhnbmobinaaRows
import Derived.Test.YtienlhnbmobinaaOpenFlat

import Derived.Test.YtienlhnbmobinaaTextsIn
import Derived.Test.YtienlhnbmobinaaPageRoomWalk

import Derived.Test.YtienlhnbmobinaaPageRoomWalk
import Derived.WalkKit
import Derived.ProofKit
import Derived.OpenShut
import Derived.ShutString
import Derived.ChangeOld
import Derived.Below
import Derived.SizedLaws
namespace Go.Proofs.Ytienlhnbmobinaa.pageRoom
open Go.ChangeShapes Go.WideShapes Go.ChangeAt Go.RowKit
open Go.ChangeMaps (open_string shut_string)
set_option linter.unusedVariables false

theorem own : ownKnob Try.prog.godebug = none := by kernel_rfl
theorem laidOut : laidOutB Try.prog = true := by kernel_rfl

set_option maxRecDepth 100000 in
theorem lifted (os : Os) (started : os.Started) (H : Type) (enc : TypeId × Value → H) :
    ReturnsInHanded {} Try.checked os 9 .any (Rows.pageRoomSpec.pre6 enc Try.prog Try.f9 Rows.pageRoomRow.domain false) (Rows.pageRoomSpec.post enc Try.prog Try.f9 false true false false) := by
  refine returnsInHanded_of_change_sized (C := Try.checked) own started (by kernel_rfl) Try.func9
    (ChangeSpec.witness6 (enc := enc) (C := Try.checked) false ⟨#[], #[.agg #[.int .u8 0, .int .u8 0, .int .u32 0, .int .u64 0, .int .u32 0, .slice none 0 0], .int .u16 0], []⟩ 8 (by kernel_rfl) (by kernel_rfl) (by kernel_rfl) (by kernel_rfl)) ?_
  intro W base args ds gs before hval0 hW hcnd hsz0 _
  have hval : ∀ (j : Nat) t v, Try.f9.params[j]? = some t → args[j]? = some v → Value.okWide Try.prog W .any base t v := hval0
  have hW' := hW
  obtain ⟨p, q, hA0, hV, rfl, hfz, hnd⟩ := hW
  have hA : DataW.TrodAll enc Try.prog W 0 (fun _ => true) true Try.f9.params.toList args.toList ds p := hA0
  have hsz : ∀ n ∈ DataW.weightsEach Try.prog (Try.f9.params.toList ++ Rows.pageRoomSpec.plain.varTypes Try.prog) (ds ++ gs), n ≤ 140737488351232 := by
    intro n hn
    have := List.all_eq_true.1 hsz0 n hn
    have h2 : n ≤ reachBytes := of_decide_eq_true this
    exact h2
  rw [Try.params9] at hA hval hsz
  obtain ⟨v0, vs0, d0, ds0, p0, q0, hargs, rfl, rfl, h0, r0⟩ := trodAll_cons hA
  obtain ⟨v1, vs1, d1, ds1, p1, q1, rfl, rfl, rfl, h1, r1⟩ := trodAll_cons r0
  obtain ⟨rfl, rfl, rfl⟩ := trodAll_nil r1
  obtain rfl : args = #[v0, v1] := by cases args; simp_all
  obtain ⟨rfl, rfl⟩ := trodVars_none hV
  have lt0 : ∀ x ∈ p0, x.block < W.heap.size := by obtain ⟨m, hm⟩ := h0; exact DataW.trod_lt m _ _ _ hm
  have lt1 : ∀ x ∈ p1, x.block < W.heap.size := by obtain ⟨m, hm⟩ := h1; exact DataW.trod_lt m _ _ _ hm
  have hsz0 : ∀ n ∈ d0.weights Try.prog 26, n ≤ 140737488351232 := fun n hn => hsz n (DataW.weights_mem_each (j := 0) (t := 26) (d := d0) rfl rfl n hn)
  have hsz1 : ∀ n ∈ d1.weights Try.prog 44, n ≤ 140737488351232 := fun n hn => hsz n (DataW.weights_mem_each (j := 1) (t := 44) (d := d1) rfl rfl n hn)
  have fl0 := open_flat [.u8, .u8, .u32, .u64, .u32, .raw 24] Try.underlying26 (by kernel_rfl) (by kernel_rfl) (hval 0 26 v0 rfl rfl) h0
  obtain ⟨cs0, rfl, fit0⟩ := fl0
  simp only [Fits] at fit0
  obtain ⟨a0_0, _, rfl, w0_0, a0_1, _, rfl, w0_1, a0_2, _, rfl, w0_2, a0_3, _, rfl, w0_3, a0_4, _, rfl, w0_4, a0_5, _, rfl, w0_5, rfl⟩ := fit0
  obtain ⟨V0_5, X0_5, ev0_5, T0_5, Z0_5⟩ := texts_of_flat (P := Try.prog) [.u8, .u8, .u32, .u64, .u32, .raw 24] (by kernel_rfl) 5 rfl Try.underlying24 Try.underlying9 (by kernel_rfl) h0
  have ew0_5 : a0_5 = V0_5 := by simpa using ev0_5
  rw [← ew0_5] at T0_5
  obtain ⟨a1, rfl, _, _, ow1⟩ := open_int Try.underlying44 (hval 1 44 v1 rfl rfl) h1
  obtain ⟨a1, rfl, w1⟩ := natOf ow1 (by decide) (b := 256 ^ 2) (by decide)
  clear hA0 hval0
  refine (pageRoomLaw_any ⟨a0_0, a0_1, a0_2, a0_3, a0_4, X0_5⟩ a0_5 a1 W ⟨w0_0, w0_1, w0_2, w0_3, w0_4⟩ T0_5 (fun r hr => hsz0 _ (Z0_5 r hr)) w1).mono fun e W' ⟨he, bel⟩ => ?_
  subst he
  exact ⟨_, rfl, _, _, _, [], _, [], hW', (trodAll_cons_mk (shut_bool Try.underlying4 _) trodAll_mk0), (trodAll_cons_mk (Below.trod laidOut (by kernel_rfl) (of_decide_eq_true (by kernel_rfl)) h0 bel lt0) (trodAll_cons_mk (Below.trod laidOut (by kernel_rfl) (of_decide_eq_true (by kernel_rfl)) h1 bel lt1) trodAll_mk0)), rfl, bel.frame _, fun h => by cases h⟩

theorem over : Rows.pageRoomRow.holds Try.pinned (OpenSpec.ofChange Rows.pageRoomSpec) :=
  OpenClaim.holds_of_wide 9 Try.f9 rfl rfl rfl rfl rfl rfl rfl ⟨rfl, rfl, rfl, rfl, rfl⟩ rfl rfl rfl rfl rfl (by kernel_rfl) Try.func9 (by kernel_rfl)
    (of_decide_eq_true (by kernel_rfl)) (by unfold Func.isWrapper; first | (rw [if_pos (by decide +kernel)]; kernel_rfl) | (rw [if_neg (by decide +kernel)]; exact ⟨rfl, rfl⟩))
    (fun os started H enc _ => lifted os started H enc)

/-- The statement. -/
theorem proved : Rows.PageRoomSaid := over
#print axioms proved
end Go.Proofs.Ytienlhnbmobinaa.pageRoom
