/- chapter 23: does. -/
import Derived.Test.YtoeaakadpillnaaRows
import Derived.Test.YtoeaakadpillnaaTxnBoth
import Derived.Deep.CutBlock
import Derived.WalkKit
import Derived.WalkLawsBesides
import Derived.WalkSpells
import Derived.LoopTactic
import Derived.WalkMore
import Derived.LoopN
import Derived.Laws.BitsAllLaws
import Derived.Laws.IdiomStrings
import Derived.BigQuiet
import Derived.Deep.QuietTactic
import Derived.Deep.DeepCutAuto
import Derived.Deep.RegionHeld3
import Derived.Deep.DrawnRows
import Derived.Lib.Hide
import Derived.Outline
import Derived.Deep.DeepMust
import Derived.Handy
namespace Go.Proofs.Ytoeaakadpillnaa
open Go.RowKit
set_option linter.unusedVariables false
set_option linter.unusedSimpArgs false

open Go.Maps
set_option maxHeartbeats 4000000 in
set_option maxRecDepth 100000 in
/-- A call, of both. -/
theorem tdoes_any (B : Nat) (w : World) {g m c gR tx no : Nat} {v : Value} {T : TT} (h : BothT B w g m c gR v tx no T) (hBw : B ≤ w.heap.size) (D ax xt xf xl xn xp xs an wh : Nat) (hax : ax < 18446744073709551616) (hxt : xt < 18446744073709551616) (hwh : wh < 256) :
    Calls Try.prog 53 #[.pointer (some ⟨g, 0, none⟩), .pointer (some ⟨gR, 0, none⟩), .agg #[.int .u8 (D : Nat), .int .u64 (ax : Nat), .int .u64 (xt : Nat), .int .u64 (xf : Nat), .int .u64 (xl : Nat), .int .u64 (xn : Nat), .int .u32 (xp : Nat), .int .u16 (xs : Nat), .int .u64 (an : Nat), .int .u8 (wh : Nat)]] w fun e w' => e = .returned (.bool true) ∧ (∃ v' tx' no' T', BothT B w' g m c gR v' tx' no' T') ∧ OthersKept w w' (fun k => B ≤ k) := by
  obtain ⟨W1, hW1⟩ : ∃ W, W = w.alloc (.cells #[.int .u8 (D : Nat), .int .u64 (ax : Nat), .int .u64 (xt : Nat), .int .u64 (xf : Nat), .int .u64 (xl : Nat), .int .u64 (xn : Nat), .int .u32 (xp : Nat), .int .u16 (xs : Nat), .int .u64 (an : Nat), .int .u8 (wh : Nat)] 70) := ⟨_, rfl⟩
  have hB1 : Below w.heap.size w W1 := by rw [hW1]; exact (Below.refl _ _).alloc (Nat.le_refl _) _
  have PA := Lib.hid (show W1.heap[w.heap.size]? = some (.cells #[.int .u8 (D : Nat), .int .u64 (ax : Nat), .int .u64 (xt : Nat), .int .u64 (xf : Nat), .int .u64 (xl : Nat), .int .u64 (xn : Nat), .int .u32 (xp : Nat), .int .u16 (xs : Nat), .int .u64 (an : Nat), .int .u8 (wh : Nat)] 70 (0, 0)) by rw [hW1]; exact heap_alloc_new w _)
  have H1 := Lib.hid (h.below hB1)
  have HB1 := Lib.hid hB1
  have h1 := h.below hB1
  have c0 := h1.rt.c0
  have hsm := h1.rt.small
  obtain ⟨vb, cp, rfl, hcp, hcm, hbb, hcell⟩ := h1.rt.form
  have HBB := Lib.hid hbb
  have HC := Lib.hid hcell
  have HTX : Hid (∀ (i : Nat) (hi : i < T.length), (T[i]).tx < 18446744073709551616) := by
    show ∀ (i : Nat), _
    intro i hi
    have a1 := h1.tt.under _ (List.getElem_mem hi)
    have a2 := h1.tt.txle
    omega
  have HLT : Hid (∀ q, mine g m c q ∨ q = gR ∨ (Value.slice vb T.length cp).ownBlock = some q → q < w.heap.size) := by
    show ∀ q, _
    intro q hq
    rcases hq with hq | hq | hq
    · have := h.tt.lt
      rcases hq with e | e | e <;> omega
    · have := blk_lt h.rt.own
      omega
    · exact (h.rt.row.lt q hq).2
  clear h h1 hB1 hbb hcell
  have p1 : W1.cell? ⟨w.heap.size, 1, none⟩ = some (.int .u64 (ax : Nat)) := by rw [blk_cell PA.out]; rfl
  have p9 : W1.cell? ⟨w.heap.size, 9, none⟩ = some (.int .u8 (wh : Nat)) := by rw [blk_cell PA.out]; rfl
  go_enter Try.func53, Try.ntmps53
  go_upto_region 2 with fail
  rw [← hW1]
  clear hW1
  go_cut [29] (fun s w' => (∃ bb : Bool, s = .bool bb ∧ (bb = true → 0 < T.length ∧ 0 < wh)) ∧ w' = W1)
  case first =>
    clear p1
    by_cases hw0 : 0 < wh
    · have z1 : (0 : Int) < (wh : Int) := by omega
      have z2 : decide (0 < wh) = true := by simpa using hw0
      go_wp2_with fail
      go_meet
      exact ⟨⟨decide (0 < T.length), rfl, fun h => ⟨by simpa using h, hw0⟩⟩, rfl⟩
    · have z2 : decide (0 < wh) = false := by simpa using hw0
      have z1 : ¬ (0 : Int) < (wh : Int) := by omega
      go_wp2_with fail
      go_meet
      exact ⟨⟨false, rfl, fun h => by cases h⟩, rfl⟩
  case rest =>
    obtain ⟨⟨bb, rfl, hbt⟩, rfl⟩ := hcut
    have HBT := Lib.hid hbt
    clear hbt
    go_upto_if 29 with fail
    go_cut [7] (fun s7 w' => (∃ k : Nat, k < 18446744073709551616 ∧ s7 = .int .u64 (k : Nat)) ∧ Below wc.heap.size wc w')
    case first =>
      cases bb with
      | false =>
        go_wp2_with fail
        go_meet
        exact ⟨⟨ax, hax, rfl⟩, Below.refl _ _⟩
      | true =>
        obtain ⟨h0, hw0⟩ := HBT.out rfl
        obtain ⟨kk, hkk⟩ : ∃ kk, kk = wh % T.length := ⟨_, rfl⟩
        have hkl : kk < T.length := by rw [hkk]; exact Nat.mod_lt _ h0
        obtain ⟨gv, rfl⟩ := HBB.out h0
        have ht := HC.out kk hkl gv rfl 0 _ (by omega) rfl
        rw [Nat.add_zero] at ht
        have t1 : ((wh : Nat) : Int).tmod (T.length : Int) = (kk : Int) := by rw [Int.tmod_eq_emod_of_nonneg (by omega)]; rw [hkk]; exact (Int.natCast_emod _ _).symm
        have t2 : IntKind.i64.wrap ((kk : Nat) : Int) = (kk : Int) := by rw [IntKind.wrap_i64]; omega
        have t3 : ¬ T.length = 0 := by omega
        have t4 : (0 : Int) ≤ (kk : Int) := by omega
        have t5 : (kk : Int) < (T.length : Int) := by omega
        have hx := HTX.out kk hkl
        generalize (T[kk]).tx = K at *
        have e0 := ext_cell c0 (cell_lt c0)
        have e1 := ext_cell p9 (cell_lt p9)
        have e2 := ext_cell ht (cell_lt ht)
        clear hkk
        go_upto_region 3 with fail
        refine wp_region_ext wc.heap.size (by kernel_rfl) (by kernel_rfl) ?_
        repeat (go_big_quiet_step (fail))
        refine wpQuiet_nil ?_
        rintro _ ⟨Y, rfl⟩
        have HY := Lib.hid Y.below
        go_wp2_with fail
        go_meet
        exact ⟨⟨K, hx, rfl⟩, HY.out⟩
    case rest =>
      obtain ⟨⟨k, hk, rfl⟩, hbc⟩ := hcut
      have HBc := Lib.hid (below_then HB1.out hbc)
      have PAc := Lib.hid ((hbc.block _ (blk_lt PA.out)).trans PA.out)
      have H2 := Lib.hid (H1.out.below hbc)
      clear c0 p1 p9 hbc HBT
      have p2 : wc.cell? ⟨w.heap.size, 2, none⟩ = some (.int .u64 (xt : Nat)) := by rw [blk_cell PAc.out]; rfl
      have p3 : wc.cell? ⟨w.heap.size, 3, none⟩ = some (.int .u64 (xf : Nat)) := by rw [blk_cell PAc.out]; rfl
      have p4 : wc.cell? ⟨w.heap.size, 4, none⟩ = some (.int .u64 (xl : Nat)) := by rw [blk_cell PAc.out]; rfl
      have p5 : wc.cell? ⟨w.heap.size, 5, none⟩ = some (.int .u64 (xn : Nat)) := by rw [blk_cell PAc.out]; rfl
      have p6 : wc.cell? ⟨w.heap.size, 6, none⟩ = some (.int .u32 (xp : Nat)) := by rw [blk_cell PAc.out]; rfl
      have p7 : wc.cell? ⟨w.heap.size, 7, none⟩ = some (.int .u16 (xs : Nat)) := by rw [blk_cell PAc.out]; rfl
      have hBx := (Below.refl wc.heap.size wc).alloc (Nat.le_refl _) (.cells #[.int .u64 (xt : Nat), .int .u64 (xf : Nat), .int .u64 (xl : Nat), .int .u64 (xn : Nat), .int .u32 (xp : Nat), .int .u16 (xs : Nat)] 68)
      have PX3 := Lib.hid (heap_alloc_new wc (.cells #[.int .u64 (xt : Nat), .int .u64 (xf : Nat), .int .u64 (xl : Nat), .int .u64 (xn : Nat), .int .u32 (xp : Nat), .int .u16 (xs : Nat)] 68))
      have PA3 := Lib.hid ((hBx.block _ (blk_lt PAc.out)).trans PAc.out)
      have H3 := Lib.hid (H2.out.below hBx)
      have HB3 := Lib.hid (below_then HBc.out hBx)
      have hsz := HBc.out.size
      have hax3 := blk_lt PAc.out
      clear hBx
      go_upto_region 5 with fail
      generalize hxb : wc.heap.size = xb at *
      clear p2 p3 p4 p5 p6 p7
      generalize wc.alloc (.cells #[.int .u64 (xt : Nat), .int .u64 (xf : Nat), .int .u64 (xl : Nat), .int .u64 (xn : Nat), .int .u32 (xp : Nat), .int .u16 (xs : Nat)] 68) = W3 at *
      have p9 : W3.cell? ⟨w.heap.size, 9, none⟩ = some (.int .u8 (wh : Nat)) := by rw [blk_cell PA3.out]; rfl
      have f0 := blk_frozen PX3.out 0
      have x0 : W3.cell? ⟨xb, 0, none⟩ = some (.int .u64 (xt : Nat)) := by rw [blk_cell PX3.out]; rfl
      have hxw : w.heap.size ≠ xb := by omega
      go_upto_if 50 with fail
      go_cut [] (fun w' => ∃ yt : Nat, yt < 18446744073709551616 ∧ w'.heap[xb]? = some (.cells #[.int .u64 (yt : Nat), .int .u64 (xf : Nat), .int .u64 (xl : Nat), .int .u64 (xn : Nat), .int .u32 (xp : Nat), .int .u16 (xs : Nat)] 68 (0, 0)) ∧ w'.heap[w.heap.size]? = some (.cells #[.int .u8 (D : Nat), .int .u64 (ax : Nat), .int .u64 (xt : Nat), .int .u64 (xf : Nat), .int .u64 (xl : Nat), .int .u64 (xn : Nat), .int .u32 (xp : Nat), .int .u16 (xs : Nat), .int .u64 (an : Nat), .int .u8 (wh : Nat)] 70 (0, 0)) ∧ BothT B w' g m c gR (.slice vb T.length cp) tx no T ∧ OthersKept w w' (fun k => B ≤ k))
      case first =>
        generalize hbw : decide (0 < wh) = bw
        clear hbw
        cases bw with
        | true =>
          have hk3 : OthersKept W3 (W3.setCell ⟨xb, 0, none⟩ (.int .u64 (k : Nat))) (fun q => q = xb) := OthersKept.of_grown (p := fun q => q = xb) (g := xb) (grown_set (grown_refl _ _)) rfl
          have hb3 : w.heap.size ≤ xb := by omega
          have NEW := Lib.hid (show (W3.setCell ⟨xb, 0, none⟩ (.int .u64 (k : Nat))).heap[xb]? = some (.cells #[.int .u64 (k : Nat), .int .u64 (xf : Nat), .int .u64 (xl : Nat), .int .u64 (xn : Nat), .int .u32 (xp : Nat), .int .u16 (xs : Nat)] 68 (0, 0)) by simpa using blk_set PX3.out 0 (.int .u64 (k : Nat)))
          have OLD := Lib.hid (hk3.heap PA3.out hxw)
          have hT := H3.out.tt.lt
          have hTR := blk_lt H3.out.rt.own
          have BB := Lib.hid (show BothT B (W3.setCell ⟨xb, 0, none⟩ (.int .u64 (k : Nat))) g m c gR (.slice vb T.length cp) tx no T from by
            have q := H2.out.tt.lt
            have qr := blk_lt H2.out.rt.own
            have qv : ∀ y, (Value.slice vb T.length cp).ownBlock = some y → y ≠ xb := fun y hy => by have := (H2.out.rt.row.lt y hy).2; omega
            exact ⟨H3.out.tt.kept hk3 (by omega) (by omega) (by omega), H3.out.rt.kept hk3 (by omega) qv, H3.out.far, H3.out.vfar, H3.out.base, H3.out.vb⟩)
          have KK := Lib.hid ((OthersKept.of_below (p := fun q => B ≤ q) HB3.out).trans hk3 (fun q hq e => by omega))
          clear hk3 hT hTR
          go_wp2_with fail
          go_meet
          exact ⟨k, hk, NEW.out, OLD.out, BB.out, KK.out⟩
        | false =>
          go_wp2_with fail
          go_meet
          exact ⟨xt, hxt, PX3.out, PA3.out, H3.out, OthersKept.of_below HB3.out⟩
      case rest =>
        obtain ⟨yt, hyt, hX4, hA4, hB4, hk4⟩ := hcut
        clear p9 f0 x0
        have HX4 := Lib.hid hX4
        have HA4 := Lib.hid hA4
        have HB4 := Lib.hid hB4
        have HK4 := Lib.hid hk4
        clear hX4 hA4 hB4 hk4
        have p0 : wc.cell? ⟨w.heap.size, 0, none⟩ = some (.int .u8 (D : Nat)) := by rw [blk_cell HA4.out]; rfl
        have KA : Hid (∀ (W W' : World), OthersKept W W' (mine g m c) → ∀ (q : Addr) (u : Value), w.heap.size ≤ q.block → W.cell? q = some u → W'.cell? q = some u) := by
          show ∀ (W W' : World), _
          intro W W' hk q u hq hu
          exact hk.cell hu (fun hm => by have := HLT.out _ (.inl hm); omega)
        have KR : Hid (∀ (W W' : World) (tx' no' : Nat) (T' : TT), RtNow W W' gR (.slice vb T.length cp) tx' no' T' → ∀ (q : Addr) (u : Value), w.heap.size ≤ q.block → W.cell? q = some u → W'.cell? q = some u) := by
          show ∀ (W W' : World) (tx' no' : Nat) (T' : TT), _
          intro W W' tx' no' T' hk q u hq hu
          obtain ⟨_, _, hk, _⟩ := hk
          exact hk.cell hu (fun hm => by have := HLT.out q.block (.inr hm); omega)
        obtain ⟨r, hr⟩ : ∃ r, r = D % 6 := ⟨_, rfl⟩
        have m6 : ((D : Int)).tmod 6 = (r : Nat) := by rw [Int.tmod_eq_emod_of_nonneg (by omega)]; omega
        have hr6 : r = 0 ∨ r = 1 ∨ r = 2 ∨ r = 3 ∨ r = 4 ∨ r = 5 := by omega
        have hw8 : IntKind.u8.wrap ((r : Nat) : Int) = (r : Nat) := by rw [IntKind.wrap_u8]; omega
        have hxwl : w.heap.size ≤ xb := by omega
        clear hr
        go_upto_block 0 with fail
        have HD := Lib.hid m6
        clear m6 hw8 p0
        rcases hr6 with rfl | rfl | rfl | rfl | rfl | rfl
        · as_aux_lemma =>
            have BT := Lib.hid (bt_begin wc HB4.out.tt)
            have BR := Lib.hid fun W (hW : RtAt W gR (.slice vb T.length cp) tx no T) => br_begin W hW HB4.out.tt.under
            generalize beginR tx T = R at *
            obtain ⟨⟨n, er⟩, tx2, T2⟩ := R
            simp only at BT BR
            go_wp2_with fail
            refine BT.out.mono ?_
            rintro e w5 ⟨rfl, h5, hk5⟩
            have BR5 := Lib.hid (BR.out w5 (HB4.out.rt1 hk5))
            have H5 := Lib.hid h5
            have HK5 := Lib.hid hk5
            clear h5 hk5
            go_wp2_with fail
            refine BR5.out.mono ?_
            rintro e w6 ⟨rfl, h6⟩
            have ST := Lib.hid (HB4.out.step H5.out HK5.out h6)
            clear h6
            go_wp2_with fail
            go_ret
            obtain ⟨⟨v', hv'⟩, hk6⟩ := ST.out
            exact ⟨rfl, ⟨v', tx2, no, T2, hv'⟩, HK4.out.same hk6⟩
        · as_aux_lemma =>
            have BT := Lib.hid (bt_commit wc HB4.out.tt k hk)
            have BR := Lib.hid fun W (hW : RtAt W gR (.slice vb T.length cp) tx no T) => br_commit W hW k
            generalize commitR no T k = R at *
            obtain ⟨⟨n, er⟩, no2, T2⟩ := R
            simp only at BT BR
            go_wp2_with fail
            refine BT.out.mono ?_
            rintro e w5 ⟨rfl, h5, hk5⟩
            have BR5 := Lib.hid (BR.out w5 (HB4.out.rt1 hk5))
            have H5 := Lib.hid h5
            have HK5 := Lib.hid hk5
            clear h5 hk5
            go_wp2_with fail
            refine BR5.out.mono ?_
            rintro e w6 ⟨rfl, h6⟩
            have ST := Lib.hid (HB4.out.step H5.out HK5.out h6)
            clear h6
            go_wp2_with fail
            go_ret
            obtain ⟨⟨v', hv'⟩, hk6⟩ := ST.out
            exact ⟨rfl, ⟨v', tx, no2, T2, hv'⟩, HK4.out.same hk6⟩
        · as_aux_lemma =>
            have BT := Lib.hid (bt_end wc HB4.out.tt k hk)
            have BR := Lib.hid fun W (hW : RtAt W gR (.slice vb T.length cp) tx no T) => br_end W hW k
            generalize endR T k = R at *
            obtain ⟨er, T2⟩ := R
            simp only at BT BR
            go_wp2_with fail
            refine BT.out.mono ?_
            rintro e w5 ⟨rfl, h5, hk5⟩
            have BR5 := Lib.hid (BR.out w5 (HB4.out.rt1 hk5))
            have H5 := Lib.hid h5
            have HK5 := Lib.hid hk5
            clear h5 hk5
            go_wp2_with fail
            refine BR5.out.mono ?_
            rintro e w6 ⟨rfl, h6⟩
            have ST := Lib.hid (HB4.out.step H5.out HK5.out h6)
            clear h6
            go_wp2_with fail
            go_ret
            obtain ⟨⟨v', hv'⟩, hk6⟩ := ST.out
            exact ⟨rfl, ⟨v', tx, no, T2, hv'⟩, HK4.out.same hk6⟩
        · as_aux_lemma =>
            have BT := Lib.hid fun W (hW : TtAt W g m c tx no T) => bt_set W hW (⟨yt, xf, xl, xn, xp, xs⟩ : TX) hyt
            have BR := Lib.hid fun W (hW : RtAt W gR (.slice vb T.length cp) tx no T) => br_set W hW (⟨yt, xf, xl, xn, xp, xs⟩ : TX)
            generalize setR T (⟨yt, xf, xl, xn, xp, xs⟩ : TX) = R at *
            obtain ⟨er, T2⟩ := R
            simp only [TX.val] at BT BR
            have s0 : wc.cell? ⟨xb, 0, none⟩ = some (.int .u64 (yt : Nat)) := by rw [blk_cell HX4.out]; rfl
            have s1 : wc.cell? ⟨xb, 1, none⟩ = some (.int .u64 (xf : Nat)) := by rw [blk_cell HX4.out]; rfl
            have s2 : wc.cell? ⟨xb, 2, none⟩ = some (.int .u64 (xl : Nat)) := by rw [blk_cell HX4.out]; rfl
            have s3 : wc.cell? ⟨xb, 3, none⟩ = some (.int .u64 (xn : Nat)) := by rw [blk_cell HX4.out]; rfl
            have s4 : wc.cell? ⟨xb, 4, none⟩ = some (.int .u32 (xp : Nat)) := by rw [blk_cell HX4.out]; rfl
            have s5 : wc.cell? ⟨xb, 5, none⟩ = some (.int .u16 (xs : Nat)) := by rw [blk_cell HX4.out]; rfl
            go_upto_region 19 with fail
            go_region_held3 (fun W => W.cell? ⟨xb, 0, none⟩ = some (.int .u64 (yt : Nat)) ∧ W.cell? ⟨xb, 1, none⟩ = some (.int .u64 (xf : Nat)) ∧ W.cell? ⟨xb, 2, none⟩ = some (.int .u64 (xl : Nat)) ∧ W.cell? ⟨xb, 3, none⟩ = some (.int .u64 (xn : Nat)) ∧ W.cell? ⟨xb, 4, none⟩ = some (.int .u32 (xp : Nat)) ∧ W.cell? ⟨xb, 5, none⟩ = some (.int .u16 (xs : Nat))) (first | (with_reducible exact ⟨s0, s1, s2, s3, s4, s5⟩) | exact ⟨KA.out _ _ hk5 ⟨xb, 0, none⟩ _ (hxwl) s0, KA.out _ _ hk5 ⟨xb, 1, none⟩ _ (hxwl) s1, KA.out _ _ hk5 ⟨xb, 2, none⟩ _ (hxwl) s2, KA.out _ _ hk5 ⟨xb, 3, none⟩ _ (hxwl) s3, KA.out _ _ hk5 ⟨xb, 4, none⟩ _ (hxwl) s4, KA.out _ _ hk5 ⟨xb, 5, none⟩ _ (hxwl) s5⟩ | exact ⟨KR.out _ _ _ _ _ h6 ⟨xb, 0, none⟩ _ (hxwl) (KA.out _ _ hk5 ⟨xb, 0, none⟩ _ (hxwl) s0), KR.out _ _ _ _ _ h6 ⟨xb, 1, none⟩ _ (hxwl) (KA.out _ _ hk5 ⟨xb, 1, none⟩ _ (hxwl) s1), KR.out _ _ _ _ _ h6 ⟨xb, 2, none⟩ _ (hxwl) (KA.out _ _ hk5 ⟨xb, 2, none⟩ _ (hxwl) s2), KR.out _ _ _ _ _ h6 ⟨xb, 3, none⟩ _ (hxwl) (KA.out _ _ hk5 ⟨xb, 3, none⟩ _ (hxwl) s3), KR.out _ _ _ _ _ h6 ⟨xb, 4, none⟩ _ (hxwl) (KA.out _ _ hk5 ⟨xb, 4, none⟩ _ (hxwl) s4), KR.out _ _ _ _ _ h6 ⟨xb, 5, none⟩ _ (hxwl) (KA.out _ _ hk5 ⟨xb, 5, none⟩ _ (hxwl) s5)⟩ | exact ⟨s0, s1, s2, s3, s4, s5⟩) (first
              | (go_at_call 42; refine (BT.out _ (HB4.out.tt.below (Below.refl _ _).drew)).mono ?_; rintro e w5 ⟨rfl, h5, hk5⟩)
              | (go_at_call 78; refine (BR.out _ ((HB4.out.below (Below.refl _ _).drew).rt1 hk5)).mono ?_; rintro e w6 ⟨rfl, h6⟩))
            all_goals
              have ST := Lib.hid ((HB4.out.below (Below.refl _ _).drew).step h5 hk5 h6)
              clear h5 h6 hk5
              go_wp2_with fail
              go_ret
              obtain ⟨⟨v', hv'⟩, hk6⟩ := ST.out
              exact ⟨rfl, ⟨v', tx, no, T2, hv'⟩, HK4.out.same ((OthersKept.of_below (Below.refl _ _).drew).same hk6)⟩
        · as_aux_lemma =>
            have BT := Lib.hid fun W (hW : TtAt W g m c tx no T) => bt_add W hW (⟨xt, xf, xl, xn, xp, xs⟩ : TX) hxt
            have BR := Lib.hid fun W (hW : RtAt W gR (.slice vb T.length cp) tx no T) => br_add W hW (⟨xt, xf, xl, xn, xp, xs⟩ : TX)
            generalize addR tx T (⟨xt, xf, xl, xn, xp, xs⟩ : TX) = R at *
            obtain ⟨er, tx2, T2⟩ := R
            simp only [TX.val] at BT BR
            have s2 : wc.cell? ⟨w.heap.size, 2, none⟩ = some (.int .u64 (xt : Nat)) := by rw [blk_cell HA4.out]; rfl
            have s3 : wc.cell? ⟨w.heap.size, 3, none⟩ = some (.int .u64 (xf : Nat)) := by rw [blk_cell HA4.out]; rfl
            have s4 : wc.cell? ⟨w.heap.size, 4, none⟩ = some (.int .u64 (xl : Nat)) := by rw [blk_cell HA4.out]; rfl
            have s5 : wc.cell? ⟨w.heap.size, 5, none⟩ = some (.int .u64 (xn : Nat)) := by rw [blk_cell HA4.out]; rfl
            have s6 : wc.cell? ⟨w.heap.size, 6, none⟩ = some (.int .u32 (xp : Nat)) := by rw [blk_cell HA4.out]; rfl
            have s7 : wc.cell? ⟨w.heap.size, 7, none⟩ = some (.int .u16 (xs : Nat)) := by rw [blk_cell HA4.out]; rfl
            go_upto_region 21 with fail
            go_region_held3 (fun W => W.cell? ⟨w.heap.size, 2, none⟩ = some (.int .u64 (xt : Nat)) ∧ W.cell? ⟨w.heap.size, 3, none⟩ = some (.int .u64 (xf : Nat)) ∧ W.cell? ⟨w.heap.size, 4, none⟩ = some (.int .u64 (xl : Nat)) ∧ W.cell? ⟨w.heap.size, 5, none⟩ = some (.int .u64 (xn : Nat)) ∧ W.cell? ⟨w.heap.size, 6, none⟩ = some (.int .u32 (xp : Nat)) ∧ W.cell? ⟨w.heap.size, 7, none⟩ = some (.int .u16 (xs : Nat))) (first | (with_reducible exact ⟨s2, s3, s4, s5, s6, s7⟩) | exact ⟨KA.out _ _ hk5 ⟨w.heap.size, 2, none⟩ _ (Nat.le_refl _) s2, KA.out _ _ hk5 ⟨w.heap.size, 3, none⟩ _ (Nat.le_refl _) s3, KA.out _ _ hk5 ⟨w.heap.size, 4, none⟩ _ (Nat.le_refl _) s4, KA.out _ _ hk5 ⟨w.heap.size, 5, none⟩ _ (Nat.le_refl _) s5, KA.out _ _ hk5 ⟨w.heap.size, 6, none⟩ _ (Nat.le_refl _) s6, KA.out _ _ hk5 ⟨w.heap.size, 7, none⟩ _ (Nat.le_refl _) s7⟩ | exact ⟨KR.out _ _ _ _ _ h6 ⟨w.heap.size, 2, none⟩ _ (Nat.le_refl _) (KA.out _ _ hk5 ⟨w.heap.size, 2, none⟩ _ (Nat.le_refl _) s2), KR.out _ _ _ _ _ h6 ⟨w.heap.size, 3, none⟩ _ (Nat.le_refl _) (KA.out _ _ hk5 ⟨w.heap.size, 3, none⟩ _ (Nat.le_refl _) s3), KR.out _ _ _ _ _ h6 ⟨w.heap.size, 4, none⟩ _ (Nat.le_refl _) (KA.out _ _ hk5 ⟨w.heap.size, 4, none⟩ _ (Nat.le_refl _) s4), KR.out _ _ _ _ _ h6 ⟨w.heap.size, 5, none⟩ _ (Nat.le_refl _) (KA.out _ _ hk5 ⟨w.heap.size, 5, none⟩ _ (Nat.le_refl _) s5), KR.out _ _ _ _ _ h6 ⟨w.heap.size, 6, none⟩ _ (Nat.le_refl _) (KA.out _ _ hk5 ⟨w.heap.size, 6, none⟩ _ (Nat.le_refl _) s6), KR.out _ _ _ _ _ h6 ⟨w.heap.size, 7, none⟩ _ (Nat.le_refl _) (KA.out _ _ hk5 ⟨w.heap.size, 7, none⟩ _ (Nat.le_refl _) s7)⟩ | exact ⟨s2, s3, s4, s5, s6, s7⟩) (first
              | (go_at_call 46; refine (BT.out _ (HB4.out.tt.below (Below.refl _ _).drew)).mono ?_; rintro e w5 ⟨rfl, h5, hk5⟩)
              | (go_at_call 79; refine (BR.out _ ((HB4.out.below (Below.refl _ _).drew).rt1 hk5)).mono ?_; rintro e w6 ⟨rfl, h6⟩))
            all_goals
              have ST := Lib.hid ((HB4.out.below (Below.refl _ _).drew).step h5 hk5 h6)
              clear h5 h6 hk5
              go_wp2_with fail
              go_ret
              obtain ⟨⟨v', hv'⟩, hk6⟩ := ST.out
              exact ⟨rfl, ⟨v', tx2, no, T2, hv'⟩, HK4.out.same ((OthersKept.of_below (Below.refl _ _).drew).same hk6)⟩
        · as_aux_lemma =>
            have BT := Lib.hid fun W (hW : TtAt W g m c tx no T) => bt_raise W hW ax an
            have BR := Lib.hid fun W (hW : RtAt W gR (.slice vb T.length cp) tx no T) => br_raise W hW ax an
            generalize raiseR tx no ax an = R at *
            obtain ⟨er, tx2, no2⟩ := R
            simp only [TX.val] at BT BR
            have s1 : wc.cell? ⟨w.heap.size, 1, none⟩ = some (.int .u64 (ax : Nat)) := by rw [blk_cell HA4.out]; rfl
            have s8 : wc.cell? ⟨w.heap.size, 8, none⟩ = some (.int .u64 (an : Nat)) := by rw [blk_cell HA4.out]; rfl
            go_upto_region 22 with fail
            go_region_held3 (fun W => W.cell? ⟨w.heap.size, 1, none⟩ = some (.int .u64 (ax : Nat)) ∧ W.cell? ⟨w.heap.size, 8, none⟩ = some (.int .u64 (an : Nat))) (first | (with_reducible exact ⟨s1, s8⟩) | exact ⟨KA.out _ _ hk5 ⟨w.heap.size, 1, none⟩ _ (Nat.le_refl _) s1, KA.out _ _ hk5 ⟨w.heap.size, 8, none⟩ _ (Nat.le_refl _) s8⟩ | exact ⟨KR.out _ _ _ _ _ h6 ⟨w.heap.size, 1, none⟩ _ (Nat.le_refl _) (KA.out _ _ hk5 ⟨w.heap.size, 1, none⟩ _ (Nat.le_refl _) s1), KR.out _ _ _ _ _ h6 ⟨w.heap.size, 8, none⟩ _ (Nat.le_refl _) (KA.out _ _ hk5 ⟨w.heap.size, 8, none⟩ _ (Nat.le_refl _) s8)⟩ | exact ⟨s1, s8⟩) (first
              | (go_at_call 45; refine (BT.out _ (HB4.out.tt.below (Below.refl _ _).drew)).mono ?_; rintro e w5 ⟨rfl, h5, hk5⟩)
              | (go_at_call 80; refine (BR.out _ ((HB4.out.below (Below.refl _ _).drew).rt1 hk5)).mono ?_; rintro e w6 ⟨rfl, h6⟩))
            all_goals
              have ST := Lib.hid ((HB4.out.below (Below.refl _ _).drew).step h5 hk5 h6)
              clear h5 h6 hk5
              go_wp2_with fail
              go_ret
              obtain ⟨⟨v', hv'⟩, hk6⟩ := ST.out
              exact ⟨rfl, ⟨v', tx2, no2, T, hv'⟩, HK4.out.same ((OthersKept.of_below (Below.refl _ _).drew).same hk6)⟩

end Go.Proofs.Ytoeaakadpillnaa
