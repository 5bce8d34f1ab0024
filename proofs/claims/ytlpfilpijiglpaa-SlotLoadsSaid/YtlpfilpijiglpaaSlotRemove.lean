/- A text of an area is removed -/
import Derived.Test.YtlpfilpijiglpaaRows
import Derived.Test.YtlpfilpijiglpaaSlotCompact
import Derived.Test.YtlpfilpijiglpaaCloneBytes
import Derived.Test.YtlpfilpijiglpaaCopyStep
import Derived.WalkKit
import Derived.WalkLawsBesides
import Derived.WalkSpells
import Derived.LoopTactic
import Derived.WalkMore
import Derived.LoopN
import Derived.Laws.BitsAllLaws
import Derived.Laws.IdiomStrings
import Derived.BigQuiet
import Derived.Deep.QuietTactic
import Derived.Deep.DeepCutAuto
import Derived.Deep.RegionHeld3
import Derived.Deep.DrawnRows
import Derived.Lib.Hide
import Derived.Outline
import Derived.Deep.DeepMust
import Derived.Handy
namespace Go.Proofs.Ytlpfilpijiglpaa
open Go.RowKit
set_option linter.unusedVariables false
set_option linter.unusedSimpArgs false

theorem run_clear_row {P : Program} {W : World} {g k n cap : Nat} {l : List UInt8} (h : RowAt W g l) (t ty elem : TypeId) (hu : P.underlying t = some (.slice elem)) (hz : ∀ w, (zeroValue elem).run P w = .ok (.int .u8 0) w) (hn : 0 < n) (hfit : k + n ≤ l.length) :
    ∃ W', (Builtin.clear_ #[t] ty #[.slice (some ⟨g, k, none⟩) n cap]).run P W = .ok (.tuple #[]) W' ∧ RowAt W' g (l.take k ++ List.replicate n 0 ++ l.drop (k + n)) ∧ W.grownBy W' (some g) := by
  obtain ⟨W', h1, h2, h3⟩ := run_storeBytes (P := P) g k (List.replicate n 0) 0 l W h (by simpa using hfit)
  refine ⟨W', ?_, by simpa using h2, h3⟩
  obtain ⟨m, rfl⟩ : ∃ m, n = m + 1 := ⟨n - 1, by omega⟩
  have e : (Builtin.zeroCells (Value.int .u8 0).cells (m + 1)).toList = (List.replicate (m + 1) (0 : UInt8)).map fun b => Value.int .u8 (b.toNat : Int) := by
    apply List.ext_getElem
    · simp [Builtin.zeroCells, Value.cells]
    · intro j h1 h2
      simp [Builtin.zeroCells, Value.cells, Nat.mod_one]
  have h1' : (storeCells ⟨g, k, none⟩ (List.replicate (m + 1) (Value.int .u8 0))).run P W = .ok () W' := by simpa using h1
  simp [Builtin.clear_, run_underlying hu, hz, e, h1']
theorem upon_clear {P : Program} {o : Oper} {a : Act} {K : Act → World → Prop} {Q : Exit → Act → World → Prop} {W : World} {g k n cap : Nat} {l : List UInt8} (h : RowAt W g l) (t ty elem : TypeId) (hu : P.underlying t = some (.slice elem)) (hz : ∀ w, (zeroValue elem).run P w = .ok (.int .u8 0) w) (hn : 0 < n) (hfit : k + n ≤ l.length)
    (hk : ∀ W', RowAt W' g (l.take k ++ List.replicate n 0 ++ l.drop (k + n)) → W.grownBy W' (some g) → K (a.put o.dst (.tuple #[])) W') :
    o.upon P a K Q (((Builtin.clear_ #[t] ty #[.slice (some ⟨g, k, none⟩) n cap]).run P W).andThen fun v w' => .ok (.value v) w') := by
  obtain ⟨W', h1, h2, h3⟩ := run_clear_row (P := P) (cap := cap) h t ty elem hu hz hn hfit
  rw [h1]
  simp only [Result.andThen]
  rw [Oper.upon_value]
  exact hk W' h2 h3

theorem Ar.Good.cut_fit {a : Ar} (h : a.Good) (k : Nat) (hk : k < a.L.length) : (a.cut k).Fit := (h.cut k hk).1.fit

theorem removeA_no (gA gB cap : Nat) (k : Int) (a : Ar) (w : World) (hg : a.Good) (hk : ¬ (0 ≤ k ∧ k < (a.L.length : Int))) (h : ArAt w gA gB cap a) :
    Calls Try.prog 17 #[.pointer (some ⟨gA, 0, none⟩), .int .i64 k] w fun e w' => e = .returned (.int .i64 3) ∧ Below w.heap.size w w' := by
  have R0 := fun W hW => thereA gA gB cap k a W hg.fit hW
  rw [if_neg hk] at R0
  have R := Lib.hid R0
  have H := Lib.hid h
  clear R0 h hk
  go_enter Try.func17, Try.ntmps17
  go_wp2_with fail
  refine (R.out _ H.out).mono ?_
  rintro e w1 ⟨rfl, h1⟩
  go_wp2_with fail
  go_ret
  exact ⟨rfl, h1⟩

set_option maxHeartbeats 2000000 in
set_option maxRecDepth 100000 in
theorem removeA_yes (gA gB cap k : Nat) (a : Ar) (w : World) (hg : a.Good) (hk : k < a.L.length) (h : ArAt w gA gB cap a) :
    Calls Try.prog 17 #[.pointer (some ⟨gA, 0, none⟩), .int .i64 k] w fun e w' => e = .returned (.int .i64 0) ∧ ArAt w' gA gB cap (a.cut k) ∧ w.grownBy w' (some gB) := by
  have hf := hg.fit
  have hn := hf.n
  have b1 := hf.l
  have b2 := hf.hi
  have b3 := hf.f
  have R0 := fun W hW => thereA gA gB cap (k : Int) a W hf hW
  rw [if_pos (by omega)] at R0
  have R := Lib.hid R0
  have LN := Lib.hid fun W hW => lenA gA gB cap a W hf hW
  have hel := hf.len
  have hcap := h.room
  have hfin : a.fin = 4 + 4 * a.L.length := rfl
  have hun := a.unshift k hk (by omega)
  have hcutl : (a.cut k).enc.length = a.enc.length := by
    have h1 := (hg.cut_fit k hk).len
    have h2 : (a.cut k).B.length = a.B.length := by show (a.B.take (a.fin - 4) ++ List.replicate 4 0 ++ a.B.drop a.fin).length = _; simp; omega
    omega
  have hcutB : (a.cut k).B.length ≤ cap := by show (a.B.take (a.fin - 4) ++ List.replicate 4 0 ++ a.B.drop a.fin).length ≤ cap; simp; omega
  have hle : (k : Nat) * 4 + 8 ≤ a.fin := by omega
  have m1 : IntKind.i64.wrap (4 * (k : Int)) = 4 * (k : Int) := IntWalk.i64_in _ ⟨by omega, by omega⟩
  have m2 : IntKind.i64.wrap (4 + 4 * (k : Int)) = ((4 + 4 * k : Nat) : Int) := by rw [show ((4 + 4 * k : Nat) : Int) = 4 + 4 * (k : Int) by omega]; exact IntWalk.i64_in _ ⟨by omega, by omega⟩
  have m3 : IntKind.i64.wrap (((4 + 4 * k : Nat) : Int) + 4) = ((8 + 4 * k : Nat) : Int) := by rw [show ((8 + 4 * k : Nat) : Int) = ((4 + 4 * k : Nat) : Int) + 4 by omega]; exact IntWalk.i64_in _ ⟨by omega, by omega⟩
  have m4 : IntKind.i64.wrap (4 * (a.L.length : Int)) = 4 * (a.L.length : Int) := IntWalk.i64_in _ ⟨by omega, by omega⟩
  have m5 : IntKind.i64.wrap (4 + 4 * (a.L.length : Int)) = (a.fin : Int) := by rw [hfin, show ((4 + 4 * a.L.length : Nat) : Int) = 4 + 4 * (a.L.length : Int) by omega]; exact IntWalk.i64_in _ ⟨by omega, by omega⟩
  have m6 : IntKind.i64.wrap ((a.fin : Int) - 4) = ((a.fin - 4 : Nat) : Int) := by rw [show ((a.fin - 4 : Nat) : Int) = (a.fin : Int) - 4 by omega]; exact IntWalk.i64_in _ ⟨by omega, by omega⟩
  have m7 : IntKind.i64.wrap ((a.L.length : Int) - 1) = ((a.L.length - 1 : Nat) : Int) := by rw [show ((a.L.length - 1 : Nat) : Int) = (a.L.length : Int) - 1 by omega]; exact IntWalk.i64_in _ ⟨by omega, by omega⟩
  have hE : 4 * (a.L.length - 1 - k) = a.fin - (8 + 4 * k) := by omega
  rw [hE] at hun
  obtain ⟨K1, hK1⟩ : ∃ x, x = 4 + 4 * k := ⟨_, rfl⟩
  obtain ⟨K2, hK2⟩ : ∃ x, x = 8 + 4 * k := ⟨_, rfl⟩
  obtain ⟨F, hF⟩ : ∃ x, x = a.fin := ⟨_, rfl⟩
  obtain ⟨F4, hF4⟩ : ∃ x, x = a.fin - 4 := ⟨_, rfl⟩
  obtain ⟨n1, hn1⟩ : ∃ x, x = a.L.length - 1 := ⟨_, rfl⟩
  obtain ⟨zs, hzs⟩ : ∃ x, x = (a.enc.drop (8 + 4 * k)).take (a.fin - (8 + 4 * k)) := ⟨_, rfl⟩
  have hzl : zs.length = F - K2 := by rw [hzs, List.length_take, List.length_drop, hel]; omega
  have hzg : ∀ j (hj : j < zs.length) (hj' : K2 + j < a.enc.length), zs[j] = a.enc[K2 + j] := by
    intro j hj hj'
    simp [hzs, hK2]
  rw [← hzs, ← hK1, ← hF4, ← hn1] at hun
  rw [← hK1] at m2 m3
  rw [← hK2] at m3
  rw [← hF4] at m6
  rw [← hF] at m5 m6
  rw [← hn1] at m7
  have q1 : (0 : Int) ≤ (K1 : Int) := by omega
  have q2 : (K1 : Int) ≤ (a.B.length : Int) := by omega
  have q3 : (0 : Int) ≤ (K2 : Int) := by omega
  have q4 : (K2 : Int) ≤ (F : Int) := by omega
  have q5 : (F : Int) ≤ (cap : Int) := by omega
  have q6 : ¬ (K1 : Int) = (cap : Int) := by omega
  have q7 : ¬ cap = K1 := by omega
  have q8 : (0 : Int) ≤ (F4 : Int) := by omega
  have q9 : (F4 : Int) ≤ (F : Int) := by omega
  have q10 : ¬ cap = F4 := by omega
  have q11 : ¬ (F4 : Int) = (cap : Int) := by omega
  have q12 : F - F4 = 4 := by omega
  have Q12 := Lib.hid q12
  have hA1 : (putAt a.enc K1 zs).length = a.enc.length := putAt_len (by omega)
  have hA2 : (putAt (putAt a.enc K1 zs) F4 (List.replicate 4 0)).length = a.enc.length := by rw [putAt_len (by rw [List.length_replicate]; omega), hA1]
  have TW := Lib.hid fun W (hW : AreaIn W gA gB cap (putAt (putAt a.enc K1 zs) F4 (List.replicate 4 0))) => slotTwo_any gA gB cap 0 n1 _ W (by omega) (by omega) (by omega) (by omega) hW
  have LN2 := Lib.hid fun W (hW : AreaIn W gA gB cap (putAt (putAt a.enc K1 zs) F4 (List.replicate 4 0))) => slotLen_any gA gB cap _ W (by omega) (by omega) hW
  have hu0 : u2 (putAt (putAt a.enc K1 zs) F4 (List.replicate 4 0)) 0 = a.L.length := by
    rw [← hf.u0]
    unfold u2
    have e : ∀ j, j < 2 → (putAt (putAt a.enc K1 zs) F4 (List.replicate 4 0)).getD j 0 = a.enc.getD j 0 := by
      intro j hj
      rw [List.getD_eq_getElem?_getD, List.getD_eq_getElem?_getD, putAt_get _ _ _ (by omega), if_pos (by omega), putAt_get _ _ _ (by omega), if_pos (by omega)]
    rw [e 0 (by omega), e 1 (by omega)]
  rw [hu0] at LN2
  have HUN := Lib.hid hun
  have LPA := Lib.hid hA1
  have Fin1 := Lib.hid fun (W W2 : World) (hA : ArAt W gA gB cap a) (hg2 : W.grownBy W2 (some gB)) (hr : RowAt W2 gB (a.enc.take K1 ++ zs ++ a.enc.drop (K1 + zs.length))) => (show AreaIn W2 gA gB cap (putAt a.enc K1 zs) from hA.area.grown hg2 hr hA1)
  have Fin2 := Lib.hid fun (W W2 : World) (hA : AreaIn W gA gB cap (putAt a.enc K1 zs)) (hg2 : W.grownBy W2 (some gB)) (hr : RowAt W2 gB ((putAt a.enc K1 zs).take F4 ++ List.replicate (F - F4) 0 ++ (putAt a.enc K1 zs).drop (F4 + (F - F4)))) => (show AreaIn W2 gA gB cap (putAt (putAt a.enc K1 zs) F4 (List.replicate 4 0)) from by
    refine hA.grown hg2 ?_ (by rw [hA2, hA1])
    rw [q12] at hr
    unfold putAt at hr ⊢
    simpa using hr)
  have Fin3 := Lib.hid fun (W : World) (hA : AreaIn W gA gB cap (a.cut k).enc) => (ArAt.mk hA hcutB : ArAt W gA gB cap (a.cut k))
  have HZM : Hid (zs.length = Nat.min (F - K2) (a.B.length - K1)) := by show _ = _; rw [hzl]; exact (Nat.min_eq_left (by omega)).symm
  have HZF : Hid (K1 + zs.length ≤ a.enc.length) := by show _ ≤ _; omega
  have SRC1 := Lib.hid fun (W : World) (hA : ArAt W gA gB cap a) j (hj : j < zs.length) => (show W.cell? ((⟨gB, K2, none⟩ : Addr).add j) = some (.int .u8 (zs[j].toNat : Int)) from by
    rw [Addr.add_lit, hzg j hj (by omega)]
    exact hA.area.row.cell (K2 + j) (by omega))
  have SRC2 := Lib.hid fun (hc : cap = K2) (W : World) j (hj : j < zs.length) => (show W.cell? ((⟨gB, 0, none⟩ : Addr).add j) = some (.int .u8 (zs[j].toNat : Int)) from by omega)
  have Hel := Lib.hid hel
  have H := Lib.hid h
  have C1 : Hid (F4 + (F - F4) ≤ (putAt a.enc K1 zs).length) := by show _ ≤ _; omega
  clear hun hu0 hA1 hA2 hzg hzl hzs hel q12 hcutl hcutB hle h R0 hE hK1 hK2 hF hF4 hfin b3 hn1
  by_cases hcc : cap = K2
  · subst hcc
    go_enter Try.func17, Try.ntmps17
    go_wp2_with fail
    refine (R.out _ H.out).mono ?_
    rintro e w1 ⟨rfl, h1⟩
    have HA1 := Lib.hid (H.out.below h1)
    have HB1 := Lib.hid h1
    clear h1
    go_wp2_with fail
    refine (LN.out _ HA1.out).mono ?_
    rintro e w2 ⟨rfl, h2⟩
    have HA2 := Lib.hid (HA1.out.below h2)
    have HB2 := Lib.hid (below_then HB1.out h2)
    clear h2
    have own2 : w2.cell? ⟨gA, 0, none⟩ = some (.slice (some ⟨gB, 0, none⟩) a.B.length cap) := by rw [← Hel.out, blk_cell HA2.out.area.own]; rfl
    go_wp2_with fail
    have c0 := ext_cell (w := w2) (b := gA) (o := 0) own2 (cell_lt own2)
    refine wp_region_ext_tail w2.heap.size 14 (by kernel_rfl) (by kernel_rfl) ?_
    simp only [List.take_succ_cons, List.take_zero, List.drop_succ_cons, List.drop_zero]
    repeat (go_big_quiet_step (fail))
    refine wpQuiet_nil ?_
    rintro _ ⟨X, rfl⟩
    have hX := X.below
    generalize X.val = wx at hX
    have HAx := Lib.hid (HA2.out.below hX)
    have HBx := Lib.hid (below_then HB2.out hX)
    clear c0 hX own2
    go_wp2_with fail
    refine upon_copy_part HAx.out.area.row 38 38 _ 5 ⟨gB, 0, none⟩ Try.underlying38 (by kernel_rfl) HZM.out (SRC2.out (by trivial) _) HZF.out (fun w3 hr3 hg3 => ?_)
    have HA3 := Lib.hid (Fin1.out _ _ HAx.out hg3 hr3)
    have HG3 := Lib.hid (grown_step HBx.out hg3)
    clear hr3 hg3
    have own3 : w3.cell? ⟨gA, 0, none⟩ = some (.slice (some ⟨gB, 0, none⟩) a.B.length cap) := by rw [← Hel.out, ← LPA.out, blk_cell HA3.out.own]; rfl
    go_wp2_with fail
    refine upon_clear HA3.out.row 38 _ 5 Try.underlying38 Try.zeroValue5 (by rw [Q12.out]; omega) C1.out (fun w4 hr4 hg4 => ?_)
    have HA4 := Lib.hid (Fin2.out _ _ HA3.out hg4 hr4)
    have HG4 := Lib.hid (grown_trans HG3.out hg4)
    clear hr4 hg4 own3
    go_wp2_with fail
    refine (LN2.out _ HA4.out).mono ?_
    rintro e w5 ⟨rfl, h5⟩
    have HA5 := Lib.hid (HA4.out.below h5)
    have HG5 := Lib.hid (grown_trans HG4.out (grown_below _ h5))
    clear h5
    go_wp2_with fail
    refine (TW.out _ HA5.out).mono ?_
    rintro e w6 ⟨rfl, hA6, hg6⟩
    rw [HUN.out] at hA6
    have HA6 := Lib.hid (Fin3.out _ hA6)
    have HG6 := Lib.hid (grown_trans HG5.out hg6)
    clear hA6 hg6
    go_wp2_with fail
    go_ret
    exact ⟨rfl, HA6.out, HG6.out⟩
  · go_enter Try.func17, Try.ntmps17
    go_wp2_with fail
    refine (R.out _ H.out).mono ?_
    rintro e w1 ⟨rfl, h1⟩
    have HA1 := Lib.hid (H.out.below h1)
    have HB1 := Lib.hid h1
    clear h1
    go_wp2_with fail
    refine (LN.out _ HA1.out).mono ?_
    rintro e w2 ⟨rfl, h2⟩
    have HA2 := Lib.hid (HA1.out.below h2)
    have HB2 := Lib.hid (below_then HB1.out h2)
    clear h2
    have own2 : w2.cell? ⟨gA, 0, none⟩ = some (.slice (some ⟨gB, 0, none⟩) a.B.length cap) := by rw [← Hel.out, blk_cell HA2.out.area.own]; rfl
    go_wp2_with fail
    have c0 := ext_cell (w := w2) (b := gA) (o := 0) own2 (cell_lt own2)
    refine wp_region_ext_tail w2.heap.size 14 (by kernel_rfl) (by kernel_rfl) ?_
    simp only [List.take_succ_cons, List.take_zero, List.drop_succ_cons, List.drop_zero]
    repeat (go_big_quiet_step (fail))
    refine wpQuiet_nil ?_
    rintro _ ⟨X, rfl⟩
    have hX := X.below
    generalize X.val = wx at hX
    have HAx := Lib.hid (HA2.out.below hX)
    have HBx := Lib.hid (below_then HB2.out hX)
    clear c0 hX own2
    go_wp2_with fail
    refine upon_copy_part HAx.out.area.row 38 38 _ 5 ⟨gB, K2, none⟩ Try.underlying38 (by kernel_rfl) HZM.out (SRC1.out _ HAx.out) HZF.out (fun w3 hr3 hg3 => ?_)
    have HA3 := Lib.hid (Fin1.out _ _ HAx.out hg3 hr3)
    have HG3 := Lib.hid (grown_step HBx.out hg3)
    clear hr3 hg3
    have own3 : w3.cell? ⟨gA, 0, none⟩ = some (.slice (some ⟨gB, 0, none⟩) a.B.length cap) := by rw [← Hel.out, ← LPA.out, blk_cell HA3.out.own]; rfl
    go_wp2_with fail
    refine upon_clear HA3.out.row 38 _ 5 Try.underlying38 Try.zeroValue5 (by rw [Q12.out]; omega) C1.out (fun w4 hr4 hg4 => ?_)
    have HA4 := Lib.hid (Fin2.out _ _ HA3.out hg4 hr4)
    have HG4 := Lib.hid (grown_trans HG3.out hg4)
    clear hr4 hg4 own3
    go_wp2_with fail
    refine (LN2.out _ HA4.out).mono ?_
    rintro e w5 ⟨rfl, h5⟩
    have HA5 := Lib.hid (HA4.out.below h5)
    have HG5 := Lib.hid (grown_trans HG4.out (grown_below _ h5))
    clear h5
    go_wp2_with fail
    refine (TW.out _ HA5.out).mono ?_
    rintro e w6 ⟨rfl, hA6, hg6⟩
    rw [HUN.out] at hA6
    have HA6 := Lib.hid (Fin3.out _ hA6)
    have HG6 := Lib.hid (grown_trans HG5.out hg6)
    clear hA6 hg6
    go_wp2_with fail
    go_ret
    exact ⟨rfl, HA6.out, HG6.out⟩

theorem removeA (gA gB cap : Nat) (k : Int) (a : Ar) (w : World) (hg : a.Good) (h : ArAt w gA gB cap a) :
    Calls Try.prog 17 #[.pointer (some ⟨gA, 0, none⟩), .int .i64 k] w fun e w' => e = .returned (.int .i64 (a.remove k).2) ∧ ArAt w' gA gB cap (a.remove k).1 ∧ w.grownBy w' (some gB) := by
  unfold Ar.remove
  by_cases hk : 0 ≤ k ∧ k < (a.L.length : Int)
  · obtain ⟨k, rfl⟩ := Int.eq_ofNat_of_zero_le hk.1
    rw [if_neg (by omega), Int.toNat_natCast]
    exact removeA_yes gA gB cap k a w hg (by omega) h
  · refine (removeA_no gA gB cap k a w hg hk h).mono ?_
    rintro e w' ⟨rfl, hb⟩
    rw [if_pos hk]
    exact ⟨rfl, h.below hb, grown_below _ hb⟩

end Go.Proofs.Ytlpfilpijiglpaa
