/- SegAdds: the law returns true at every input, and each argument reads as it did. No condition. (The frame is the kit's own, printed by a program of ours.) -/
import Derived.Test.YtienlhnbmobinaaGreatRows
import Derived.Test.YtienlhnbmobinaaGreatAdAa
import Derived.Test.YtienlhnbmobinaaGreatAdAc
import Derived.Test.YtienlhnbmobinaaGreatAdBc
import Derived.Test.YtienlhnbmobinaaGreatAdBf
import Derived.WalkKit
import Derived.ProofKit
import Derived.OpenShut
import Derived.ShutString
import Derived.ChangeOld
import Derived.Below
import Derived.SizedLaws


namespace Go.Proofs.YtienlhnbmobinaaGreat.segAdds
open Go.ChangeShapes Go.WideShapes Go.ChangeAt Go.RowKit
open Go.ChangeMaps (open_string shut_string)
set_option linter.unusedVariables false

theorem own : ownKnob Tryz.prog.godebug = none := by kernel_rfl
theorem laidOut : laidOutB Tryz.prog = true := by kernel_rfl

/-- A text of a struct that came in. -/
theorem str_of_flat {H : Type} {enc : TypeId × Value → H} {P : Program} {w : World} {base : Nat} {held : Bool} {t : TypeId} {cs : List Value} {d : DataW H} {p : List MemPlace} (ss : List Sc) (hsc : scAt P 8 t 0 = some (numbered 0 ss)) (i : Nat) (hi : ss[i]? = some .str) (h : DataW.Trod enc P w base (fun _ => true) held t (.agg ⟨cs⟩) d p) :
    ∃ s : ByteArray, cs[i]? = some (.string s) ∧ s.size ∈ d.weights P t := by
  obtain ⟨fuel, hf⟩ := h
  obtain ⟨s, hv, hwt⟩ := scAt_weight 8 hsc (by simpa [Value.cells] using hf) (0 + i) (numbered_mem ss 0 i _ hi)
  exact ⟨s, by simpa using hv, hwt⟩

set_option maxRecDepth 100000 in
theorem lifted (os : Os) (started : os.Started) (H : Type) (enc : TypeId × Value → H) :
    ReturnsInHanded {} Tryz.checked os 3 .any (Rows.segAddsSpec.pre6 enc Tryz.prog Tryz.f3 Rows.segAddsRow.domain false) (Rows.segAddsSpec.post enc Tryz.prog Tryz.f3 false true false false) := by
  refine returnsInHanded_of_change_sized (C := Tryz.checked) own started (by kernel_rfl) Tryz.func3
    (ChangeSpec.witness6 (enc := enc) (C := Tryz.checked) false ⟨#[], #[.agg #[.int .u8 0, .int .u8 0, .int .u32 0, .int .u64 0, .int .u32 0, .slice none 0 0], .slice none 0 0, .bool false, .agg #[.int .u8 0, .int .u64 0, .int .u32 0, .int .u16 0, .string ByteArray.empty, .string ByteArray.empty, .bool false, .int .u64 0, .int .u32 0, .int .u16 0, .string ByteArray.empty, .int .i64 0], .bool false, .string ByteArray.empty, .int .u16 0], []⟩ 8 (by kernel_rfl) (by kernel_rfl) (by kernel_rfl) (by kernel_rfl)) ?_
  intro W base args ds gs before hval0 hW hcnd hsz0 _
  have hval : ∀ (j : Nat) t v, Tryz.f3.params[j]? = some t → args[j]? = some v → Value.okWide Tryz.prog W .any base t v := hval0
  have hW' := hW
  obtain ⟨p, q, hA0, hV, rfl, hfz, hnd⟩ := hW
  have hA : DataW.TrodAll enc Tryz.prog W 0 (fun _ => true) true Tryz.f3.params.toList args.toList ds p := hA0
  have hsz : ∀ n ∈ DataW.weightsEach Tryz.prog (Tryz.f3.params.toList ++ Rows.segAddsSpec.plain.varTypes Tryz.prog) (ds ++ gs), n ≤ 140737488351232 := by
    intro n hn
    have := List.all_eq_true.1 hsz0 n hn
    have h2 : n ≤ reachBytes := of_decide_eq_true this
    exact h2
  rw [Tryz.params3] at hA hval hsz
  obtain ⟨v0, vs0, d0, ds0, p0, q0, hargs, rfl, rfl, h0, r0⟩ := trodAll_cons hA
  obtain ⟨v1, vs1, d1, ds1, p1, q1, rfl, rfl, rfl, h1, r1⟩ := trodAll_cons r0
  obtain ⟨v2, vs2, d2, ds2, p2, q2, rfl, rfl, rfl, h2, r2⟩ := trodAll_cons r1
  obtain ⟨v3, vs3, d3, ds3, p3, q3, rfl, rfl, rfl, h3, r3⟩ := trodAll_cons r2
  obtain ⟨v4, vs4, d4, ds4, p4, q4, rfl, rfl, rfl, h4, r4⟩ := trodAll_cons r3
  obtain ⟨v5, vs5, d5, ds5, p5, q5, rfl, rfl, rfl, h5, r5⟩ := trodAll_cons r4
  obtain ⟨v6, vs6, d6, ds6, p6, q6, rfl, rfl, rfl, h6, r6⟩ := trodAll_cons r5
  obtain ⟨rfl, rfl, rfl⟩ := trodAll_nil r6
  obtain rfl : args = #[v0, v1, v2, v3, v4, v5, v6] := by cases args; simp_all
  obtain ⟨rfl, rfl⟩ := trodVars_none hV
  have lt0 : ∀ x ∈ p0, x.block < W.heap.size := by obtain ⟨m, hm⟩ := h0; exact DataW.trod_lt m _ _ _ hm
  have lt1 : ∀ x ∈ p1, x.block < W.heap.size := by obtain ⟨m, hm⟩ := h1; exact DataW.trod_lt m _ _ _ hm
  have lt2 : ∀ x ∈ p2, x.block < W.heap.size := by obtain ⟨m, hm⟩ := h2; exact DataW.trod_lt m _ _ _ hm
  have lt3 : ∀ x ∈ p3, x.block < W.heap.size := by obtain ⟨m, hm⟩ := h3; exact DataW.trod_lt m _ _ _ hm
  have lt4 : ∀ x ∈ p4, x.block < W.heap.size := by obtain ⟨m, hm⟩ := h4; exact DataW.trod_lt m _ _ _ hm
  have lt5 : ∀ x ∈ p5, x.block < W.heap.size := by obtain ⟨m, hm⟩ := h5; exact DataW.trod_lt m _ _ _ hm
  have lt6 : ∀ x ∈ p6, x.block < W.heap.size := by obtain ⟨m, hm⟩ := h6; exact DataW.trod_lt m _ _ _ hm
  have hsz0 : ∀ n ∈ d0.weights Tryz.prog 26, n ≤ 140737488351232 := fun n hn => hsz n (DataW.weights_mem_each (j := 0) (t := 26) (d := d0) rfl rfl n hn)
  have hsz1 : ∀ n ∈ d1.weights Tryz.prog 27, n ≤ 140737488351232 := fun n hn => hsz n (DataW.weights_mem_each (j := 1) (t := 27) (d := d1) rfl rfl n hn)
  have hsz2 : ∀ n ∈ d2.weights Tryz.prog 4, n ≤ 140737488351232 := fun n hn => hsz n (DataW.weights_mem_each (j := 2) (t := 4) (d := d2) rfl rfl n hn)
  have hsz3 : ∀ n ∈ d3.weights Tryz.prog 34, n ≤ 140737488351232 := fun n hn => hsz n (DataW.weights_mem_each (j := 3) (t := 34) (d := d3) rfl rfl n hn)
  have hsz4 : ∀ n ∈ d4.weights Tryz.prog 4, n ≤ 140737488351232 := fun n hn => hsz n (DataW.weights_mem_each (j := 4) (t := 4) (d := d4) rfl rfl n hn)
  have hsz5 : ∀ n ∈ d5.weights Tryz.prog 9, n ≤ 140737488351232 := fun n hn => hsz n (DataW.weights_mem_each (j := 5) (t := 9) (d := d5) rfl rfl n hn)
  have hsz6 : ∀ n ∈ d6.weights Tryz.prog 28, n ≤ 140737488351232 := fun n hn => hsz n (DataW.weights_mem_each (j := 6) (t := 28) (d := d6) rfl rfl n hn)
  have fl0 := open_flat [.u8, .u8, .u32, .u64, .u32, .raw 24] Tryz.underlying26 (by kernel_rfl) (by kernel_rfl) (hval 0 26 v0 rfl rfl) h0
  obtain ⟨cs0, rfl, fit0⟩ := fl0
  simp only [Fits] at fit0
  obtain ⟨a0_0, _, rfl, w0_0, a0_1, _, rfl, w0_1, a0_2, _, rfl, w0_2, a0_3, _, rfl, w0_3, a0_4, _, rfl, w0_4, a0_5, _, rfl, w0_5, rfl⟩ := fit0
  obtain ⟨V0_5, X0_5, ev0_5, T0_5, Z0_5⟩ := texts_of_flat (P := Tryz.prog) [.u8, .u8, .u32, .u64, .u32, .raw 24] (by kernel_rfl) 5 rfl Tryz.underlying24 Tryz.underlying9 (by kernel_rfl) h0
  have ew0_5 : a0_5 = V0_5 := by simpa using ev0_5
  rw [← ew0_5] at T0_5
  obtain ⟨a1, len1, cap1, rfl⟩ := okWide_slice Tryz.underlying27 (hval 1 27 v1 rfl rfl)
  have rw1 := open_rows [.u8, .u64, .u32, .u16, .str, .str, .bool, .u64, .u32, .u16, .str, .i64] Tryz.underlying27 Tryz.underlying34 (by kernel_rfl) (by kernel_rfl) h1
  obtain ⟨L1, SG1, SW1⟩ := uds_of_rows rw1
  obtain ⟨a2, rfl, _⟩ := open_bool Tryz.underlying4 (hval 2 4 v2 rfl rfl) h2
  have fl3 := open_flat [.u8, .u64, .u32, .u16, .str, .str, .bool, .u64, .u32, .u16, .str, .i64] Tryz.underlying34 (by kernel_rfl) (by kernel_rfl) (hval 3 34 v3 rfl rfl) h3
  obtain ⟨cs3, rfl, fit3⟩ := fl3
  simp only [Fits] at fit3
  obtain ⟨a3_0, _, rfl, w3_0, a3_1, _, rfl, w3_1, a3_2, _, rfl, w3_2, a3_3, _, rfl, w3_3, a3_4, _, rfl, w3_4, a3_5, _, rfl, w3_5, a3_6, _, rfl, w3_6, a3_7, _, rfl, w3_7, a3_8, _, rfl, w3_8, a3_9, _, rfl, w3_9, a3_10, _, rfl, w3_10, a3_11, _, rfl, w3_11, rfl⟩ := fit3
  obtain ⟨S3_4, es3_4, sz3_4⟩ := str_of_flat (P := Tryz.prog) [.u8, .u64, .u32, .u16, .str, .str, .bool, .u64, .u32, .u16, .str, .i64] (by kernel_rfl) 4 rfl h3
  have ez3_4 : a3_4 = S3_4 := by simpa using es3_4
  have zz3_4 := hsz3 _ sz3_4
  rw [← ez3_4] at zz3_4
  obtain ⟨S3_5, es3_5, sz3_5⟩ := str_of_flat (P := Tryz.prog) [.u8, .u64, .u32, .u16, .str, .str, .bool, .u64, .u32, .u16, .str, .i64] (by kernel_rfl) 5 rfl h3
  have ez3_5 : a3_5 = S3_5 := by simpa using es3_5
  have zz3_5 := hsz3 _ sz3_5
  rw [← ez3_5] at zz3_5
  obtain ⟨S3_10, es3_10, sz3_10⟩ := str_of_flat (P := Tryz.prog) [.u8, .u64, .u32, .u16, .str, .str, .bool, .u64, .u32, .u16, .str, .i64] (by kernel_rfl) 10 rfl h3
  have ez3_10 : a3_10 = S3_10 := by simpa using es3_10
  have zz3_10 := hsz3 _ sz3_10
  rw [← ez3_10] at zz3_10
  obtain ⟨a4, rfl, _⟩ := open_bool Tryz.underlying4 (hval 4 4 v4 rfl rfl) h4
  obtain ⟨a5, rfl, hd5, _, w5⟩ := open_string Tryz.underlying9 (hval 5 9 v5 rfl rfl) h5
  have z5 : a5.size ≤ 140737488351232 := by have := hsz5; rw [hd5] at this; simpa [DataW.weights] using this
  obtain ⟨a6, rfl, _, _, ow6⟩ := open_int Tryz.underlying28 (hval 6 28 v6 rfl rfl) h6
  obtain ⟨a6, rfl, w6⟩ := natOf ow6 (by decide) (b := 256 ^ 2) (by decide)
  clear hA0 hval0
  refine (segAddsLaw_any ⟨a0_0, a0_1, a0_2, a0_3, a0_4, X0_5⟩ a0_5 L1 (.slice a1 len1 cap1) a2 ⟨a3_0, a3_1, a3_2, a3_3, a3_4, a3_5, a3_6, a3_7, a3_8, a3_9, a3_10, a3_11⟩ a4 a5.data.toList a6 W ⟨w0_0, w0_1, w0_2, w0_3, w0_4⟩ T0_5 (fun r hr => hsz0 _ (Z0_5 r hr)) SG1 SW1 ⟨w3_4, w3_5, w3_10, w3_1, w3_3, w3_7, w3_9⟩ ⟨zz3_4, zz3_5, zz3_10⟩ (by simpa using z5) w6).mono fun e W' ⟨he, bel⟩ => ?_
  subst he
  exact ⟨_, rfl, _, _, _, [], _, [], hW', (trodAll_cons_mk (shut_bool Tryz.underlying4 _) trodAll_mk0), (trodAll_cons_mk (Below.trod laidOut (by kernel_rfl) (of_decide_eq_true (by kernel_rfl)) h0 bel lt0) (trodAll_cons_mk (Below.trod laidOut (by kernel_rfl) (of_decide_eq_true (by kernel_rfl)) h1 bel lt1) (trodAll_cons_mk (Below.trod laidOut (by kernel_rfl) (of_decide_eq_true (by kernel_rfl)) h2 bel lt2) (trodAll_cons_mk (Below.trod laidOut (by kernel_rfl) (of_decide_eq_true (by kernel_rfl)) h3 bel lt3) (trodAll_cons_mk (Below.trod laidOut (by kernel_rfl) (of_decide_eq_true (by kernel_rfl)) h4 bel lt4) (trodAll_cons_mk (Below.trod laidOut (by kernel_rfl) (of_decide_eq_true (by kernel_rfl)) h5 bel lt5) (trodAll_cons_mk (Below.trod laidOut (by kernel_rfl) (of_decide_eq_true (by kernel_rfl)) h6 bel lt6) trodAll_mk0))))))), rfl, bel.frame _, fun h => by cases h⟩

theorem over : Rows.segAddsRow.holds Tryz.pinned (OpenSpec.ofChange Rows.segAddsSpec) :=
  OpenClaim.holds_of_wide 3 Tryz.f3 rfl rfl rfl rfl rfl rfl rfl ⟨rfl, rfl, rfl, rfl, rfl⟩ rfl rfl rfl rfl rfl (by kernel_rfl) Tryz.func3 (by kernel_rfl)
    (of_decide_eq_true (by kernel_rfl)) (by unfold Func.isWrapper; first | (rw [if_pos (by decide +kernel)]; kernel_rfl) | (rw [if_neg (by decide +kernel)]; exact ⟨rfl, rfl⟩))
    (fun os started H enc _ => lifted os started H enc)

/-- The statement. -/
theorem proved : Rows.SegAddsSaid := over
#print axioms proved
end Go.Proofs.YtienlhnbmobinaaGreat.segAdds
