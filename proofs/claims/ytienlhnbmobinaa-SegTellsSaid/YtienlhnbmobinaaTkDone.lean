/- SegTells: the law returns true at every input, and each argument reads as it did. No condition. (The frame is the kit's own, printed by a program of ours.) -/
import Derived.Test.YtienlhnbmobinaaRows
import Derived.Test.YtienlhnbmobinaaTkAa
import Derived.Test.YtienlhnbmobinaaTkAc
import Derived.Test.YtienlhnbmobinaaTkAx
import Derived.Test.YtienlhnbmobinaaTkBa
import Derived.WalkKit
import Derived.ProofKit
import Derived.OpenShut
import Derived.ShutString
import Derived.ChangeOld
import Derived.Below
import Derived.SizedLaws


namespace Go.Proofs.Ytienlhnbmobinaa.segTells
open Go.ChangeShapes Go.WideShapes Go.ChangeAt Go.RowKit
open Go.ChangeMaps (open_string shut_string)
set_option linter.unusedVariables false

theorem own : ownKnob Try.prog.godebug = none := by kernel_rfl
theorem laidOut : laidOutB Try.prog = true := by kernel_rfl

set_option maxRecDepth 100000 in
theorem lifted (os : Os) (started : os.Started) (H : Type) (enc : TypeId × Value → H) :
    ReturnsInHanded {} Try.checked os 12 .any (Rows.segTellsSpec.pre6 enc Try.prog Try.f12 Rows.segTellsRow.domain false) (Rows.segTellsSpec.post enc Try.prog Try.f12 false true false false) := by
  refine returnsInHanded_of_change_sized (C := Try.checked) own started (by kernel_rfl) Try.func12
    (ChangeSpec.witness6 (enc := enc) (C := Try.checked) false ⟨#[], #[.agg #[.int .u8 0, .int .u8 0, .int .u32 0, .int .u64 0, .int .u32 0, .slice none 0 0], .slice none 0 0, .bool false, .agg #[.int .u64 0, .int .u8 0, .int .u64 0, .int .u32 0, .int .u32 0, .int .u32 0, .int .u16 0], .int .u64 0, .int .u64 0, .string ByteArray.empty], []⟩ 8 (by kernel_rfl) (by kernel_rfl) (by kernel_rfl) (by kernel_rfl)) ?_
  intro W base args ds gs before hval0 hW hcnd hsz0 _
  have hval : ∀ (j : Nat) t v, Try.f12.params[j]? = some t → args[j]? = some v → Value.okWide Try.prog W .any base t v := hval0
  have hW' := hW
  obtain ⟨p, q, hA0, hV, rfl, hfz, hnd⟩ := hW
  have hA : DataW.TrodAll enc Try.prog W 0 (fun _ => true) true Try.f12.params.toList args.toList ds p := hA0
  have hsz : ∀ n ∈ DataW.weightsEach Try.prog (Try.f12.params.toList ++ Rows.segTellsSpec.plain.varTypes Try.prog) (ds ++ gs), n ≤ 140737488351232 := by
    intro n hn
    have := List.all_eq_true.1 hsz0 n hn
    have h2 : n ≤ reachBytes := of_decide_eq_true this
    exact h2
  rw [Try.params12] at hA hval hsz
  obtain ⟨v0, vs0, d0, ds0, p0, q0, hargs, rfl, rfl, h0, r0⟩ := trodAll_cons hA
  obtain ⟨v1, vs1, d1, ds1, p1, q1, rfl, rfl, rfl, h1, r1⟩ := trodAll_cons r0
  obtain ⟨v2, vs2, d2, ds2, p2, q2, rfl, rfl, rfl, h2, r2⟩ := trodAll_cons r1
  obtain ⟨v3, vs3, d3, ds3, p3, q3, rfl, rfl, rfl, h3, r3⟩ := trodAll_cons r2
  obtain ⟨v4, vs4, d4, ds4, p4, q4, rfl, rfl, rfl, h4, r4⟩ := trodAll_cons r3
  obtain ⟨v5, vs5, d5, ds5, p5, q5, rfl, rfl, rfl, h5, r5⟩ := trodAll_cons r4
  obtain ⟨v6, vs6, d6, ds6, p6, q6, rfl, rfl, rfl, h6, r6⟩ := trodAll_cons r5
  obtain ⟨rfl, rfl, rfl⟩ := trodAll_nil r6
  obtain rfl : args = #[v0, v1, v2, v3, v4, v5, v6] := by cases args; simp_all
  obtain ⟨rfl, rfl⟩ := trodVars_none hV
  have lt0 : ∀ x ∈ p0, x.block < W.heap.size := by obtain ⟨m, hm⟩ := h0; exact DataW.trod_lt m _ _ _ hm
  have lt1 : ∀ x ∈ p1, x.block < W.heap.size := by obtain ⟨m, hm⟩ := h1; exact DataW.trod_lt m _ _ _ hm
  have lt2 : ∀ x ∈ p2, x.block < W.heap.size := by obtain ⟨m, hm⟩ := h2; exact DataW.trod_lt m _ _ _ hm
  have lt3 : ∀ x ∈ p3, x.block < W.heap.size := by obtain ⟨m, hm⟩ := h3; exact DataW.trod_lt m _ _ _ hm
  have lt4 : ∀ x ∈ p4, x.block < W.heap.size := by obtain ⟨m, hm⟩ := h4; exact DataW.trod_lt m _ _ _ hm
  have lt5 : ∀ x ∈ p5, x.block < W.heap.size := by obtain ⟨m, hm⟩ := h5; exact DataW.trod_lt m _ _ _ hm
  have lt6 : ∀ x ∈ p6, x.block < W.heap.size := by obtain ⟨m, hm⟩ := h6; exact DataW.trod_lt m _ _ _ hm
  have hsz0 : ∀ n ∈ d0.weights Try.prog 26, n ≤ 140737488351232 := fun n hn => hsz n (DataW.weights_mem_each (j := 0) (t := 26) (d := d0) rfl rfl n hn)
  have hsz1 : ∀ n ∈ d1.weights Try.prog 79, n ≤ 140737488351232 := fun n hn => hsz n (DataW.weights_mem_each (j := 1) (t := 79) (d := d1) rfl rfl n hn)
  have hsz2 : ∀ n ∈ d2.weights Try.prog 4, n ≤ 140737488351232 := fun n hn => hsz n (DataW.weights_mem_each (j := 2) (t := 4) (d := d2) rfl rfl n hn)
  have hsz3 : ∀ n ∈ d3.weights Try.prog 83, n ≤ 140737488351232 := fun n hn => hsz n (DataW.weights_mem_each (j := 3) (t := 83) (d := d3) rfl rfl n hn)
  have hsz4 : ∀ n ∈ d4.weights Try.prog 23, n ≤ 140737488351232 := fun n hn => hsz n (DataW.weights_mem_each (j := 4) (t := 23) (d := d4) rfl rfl n hn)
  have hsz5 : ∀ n ∈ d5.weights Try.prog 23, n ≤ 140737488351232 := fun n hn => hsz n (DataW.weights_mem_each (j := 5) (t := 23) (d := d5) rfl rfl n hn)
  have hsz6 : ∀ n ∈ d6.weights Try.prog 9, n ≤ 140737488351232 := fun n hn => hsz n (DataW.weights_mem_each (j := 6) (t := 9) (d := d6) rfl rfl n hn)
  have fl0 := open_flat [.u8, .u8, .u32, .u64, .u32, .raw 24] Try.underlying26 (by kernel_rfl) (by kernel_rfl) (hval 0 26 v0 rfl rfl) h0
  obtain ⟨cs0, rfl, fit0⟩ := fl0
  simp only [Fits] at fit0
  obtain ⟨a0_0, _, rfl, w0_0, a0_1, _, rfl, w0_1, a0_2, _, rfl, w0_2, a0_3, _, rfl, w0_3, a0_4, _, rfl, w0_4, a0_5, _, rfl, w0_5, rfl⟩ := fit0
  obtain ⟨V0_5, X0_5, ev0_5, T0_5, Z0_5⟩ := texts_of_flat (P := Try.prog) [.u8, .u8, .u32, .u64, .u32, .raw 24] (by kernel_rfl) 5 rfl Try.underlying24 Try.underlying9 (by kernel_rfl) h0
  have ew0_5 : a0_5 = V0_5 := by simpa using ev0_5
  rw [← ew0_5] at T0_5
  obtain ⟨a1, len1, cap1, rfl⟩ := okWide_slice Try.underlying79 (hval 1 79 v1 rfl rfl)
  have rw1 := open_rows [.u64, .u8, .u64, .u32, .u32, .u32, .u16] Try.underlying79 Try.underlying83 (by kernel_rfl) (by kernel_rfl) h1
  obtain ⟨L1, SG1, SW1⟩ := segs_of_rows rw1
  obtain ⟨a2, rfl, _⟩ := open_bool Try.underlying4 (hval 2 4 v2 rfl rfl) h2
  have fl3 := open_flat [.u64, .u8, .u64, .u32, .u32, .u32, .u16] Try.underlying83 (by kernel_rfl) (by kernel_rfl) (hval 3 83 v3 rfl rfl) h3
  obtain ⟨cs3, rfl, fit3⟩ := fl3
  simp only [Fits] at fit3
  obtain ⟨a3_0, _, rfl, w3_0, a3_1, _, rfl, w3_1, a3_2, _, rfl, w3_2, a3_3, _, rfl, w3_3, a3_4, _, rfl, w3_4, a3_5, _, rfl, w3_5, a3_6, _, rfl, w3_6, rfl⟩ := fit3
  obtain ⟨a4, rfl, _, _, ow4⟩ := open_int Try.underlying23 (hval 4 23 v4 rfl rfl) h4
  obtain ⟨a4, rfl, w4⟩ := natOf ow4 (by decide) (b := 256 ^ 8) (by decide)
  obtain ⟨a5, rfl, _, _, ow5⟩ := open_int Try.underlying23 (hval 5 23 v5 rfl rfl) h5
  obtain ⟨a5, rfl, w5⟩ := natOf ow5 (by decide) (b := 256 ^ 8) (by decide)
  obtain ⟨a6, rfl, hd6, _, w6⟩ := open_string Try.underlying9 (hval 6 9 v6 rfl rfl) h6
  have z6 : a6.size ≤ 140737488351232 := by have := hsz6; rw [hd6] at this; simpa [DataW.weights] using this
  clear hA0 hval0
  refine (segTellsLaw_any ⟨a0_0, a0_1, a0_2, a0_3, a0_4, X0_5⟩ a0_5 L1 (.slice a1 len1 cap1) a2 ⟨a3_0, a3_1, a3_2, a3_3, a3_4, a3_5, a3_6⟩ a4 a5 a6.data.toList W ⟨w0_0, w0_1, w0_2, w0_3, w0_4⟩ T0_5 (fun r hr => hsz0 _ (Z0_5 r hr)) SG1 SW1 ⟨w3_0, w3_1, w3_2, w3_3, w3_4, w3_5, w3_6⟩ w4 w5 (by simpa using z6)).mono fun e W' ⟨he, bel⟩ => ?_
  subst he
  exact ⟨_, rfl, _, _, _, [], _, [], hW', (trodAll_cons_mk (shut_bool Try.underlying4 _) trodAll_mk0), (trodAll_cons_mk (Below.trod laidOut (by kernel_rfl) (of_decide_eq_true (by kernel_rfl)) h0 bel lt0) (trodAll_cons_mk (Below.trod laidOut (by kernel_rfl) (of_decide_eq_true (by kernel_rfl)) h1 bel lt1) (trodAll_cons_mk (Below.trod laidOut (by kernel_rfl) (of_decide_eq_true (by kernel_rfl)) h2 bel lt2) (trodAll_cons_mk (Below.trod laidOut (by kernel_rfl) (of_decide_eq_true (by kernel_rfl)) h3 bel lt3) (trodAll_cons_mk (Below.trod laidOut (by kernel_rfl) (of_decide_eq_true (by kernel_rfl)) h4 bel lt4) (trodAll_cons_mk (Below.trod laidOut (by kernel_rfl) (of_decide_eq_true (by kernel_rfl)) h5 bel lt5) (trodAll_cons_mk (Below.trod laidOut (by kernel_rfl) (of_decide_eq_true (by kernel_rfl)) h6 bel lt6) trodAll_mk0))))))), rfl, bel.frame _, fun h => by cases h⟩

theorem over : Rows.segTellsRow.holds Try.pinned (OpenSpec.ofChange Rows.segTellsSpec) :=
  OpenClaim.holds_of_wide 12 Try.f12 rfl rfl rfl rfl rfl rfl rfl ⟨rfl, rfl, rfl, rfl, rfl⟩ rfl rfl rfl rfl rfl (by kernel_rfl) Try.func12 (by kernel_rfl)
    (of_decide_eq_true (by kernel_rfl)) (by unfold Func.isWrapper; first | (rw [if_pos (by decide +kernel)]; kernel_rfl) | (rw [if_neg (by decide +kernel)]; exact ⟨rfl, rfl⟩))
    (fun os started H enc _ => lifted os started H enc)

/-- The statement. -/
theorem proved : Rows.SegTellsSaid := over
#print axioms proved
end Go.Proofs.Ytienlhnbmobinaa.segTells
