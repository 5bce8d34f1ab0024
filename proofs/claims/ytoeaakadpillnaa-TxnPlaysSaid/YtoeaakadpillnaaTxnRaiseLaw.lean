/- chapter 23: TxnRaise. -/
import Derived.Test.YtoeaakadpillnaaRows
import Derived.Test.YtoeaakadpillnaaTxnActs
import Derived.Test.YtoeaakadpillnaaTxnWorks
import Derived.Deep.CutBlock
import Derived.WalkKit
import Derived.WalkLawsBesides
import Derived.WalkSpells
import Derived.LoopTactic
import Derived.WalkMore
import Derived.LoopN
import Derived.Laws.BitsAllLaws
import Derived.Laws.IdiomStrings
import Derived.BigQuiet
import Derived.Deep.QuietTactic
import Derived.Deep.DeepCutAuto
import Derived.Deep.RegionHeld3
import Derived.Deep.DrawnRows
import Derived.Lib.Hide
import Derived.Outline
import Derived.Deep.DeepMust
import Derived.Handy
namespace Go.Proofs.Ytoeaakadpillnaa
open Go.RowKit
set_option linter.unusedVariables false
set_option linter.unusedSimpArgs false

open Go.Maps
theorem cellsT_get (T : TT) (i j : Nat) (hi : i < T.length) (hj : j < 6) : (cellsT T)[i * 6 + j]? = (T[i]).cells[j]? := by
  induction T generalizing i with
  | nil => simp at hi
  | cons x r ih =>
    cases i with
    | zero =>
      show (x.cells ++ cellsT r)[0 * 6 + j]? = _
      rw [Nat.zero_mul, Nat.zero_add, List.getElem?_append_left (by simp; omega)]
      rfl
    | succ i =>
      show (x.cells ++ cellsT r)[(i + 1) * 6 + j]? = _
      rw [List.getElem?_append_right (by simp; omega)]
      have := ih i (by simpa using hi)
      rw [show (i + 1) * 6 + j - x.cells.length = i * 6 + j by simp; omega, this]
      rfl
theorem neX_self (x : TX) : ∀ W, (binOp .neq 68 x.val x.val).run Try.prog W = .ok (.bool false) W := by
  intro W
  simp [go_sem]
theorem tx_raise_any (w : World) {g m c tx number : Nat} {T : TT} (h : TtAt w g m c tx number T) (a b : Nat) :
    Calls Try.prog 45 #[.pointer (some ⟨g, 0, none⟩), .int .u64 (a : Nat), .int .u64 (b : Nat)] w fun e w' => ∃ v, e = .returned v ∧ (∃ tx' no', TtAt w' g m c tx' no' T ∧ tx ≤ tx' ∧ number ≤ no') ∧ OthersKept w w' (mine g m c) := by
  by_cases h1 : a ≤ 4611686018427387904 ∧ b ≤ 4611686018427387904
  · refine (tx_raise w h a b h1.1 h1.2).mono ?_
    rintro e w1 ⟨rfl, h1, h2⟩
    exact ⟨_, rfl, ⟨_, _, h1, Nat.le_max_left _ _, Nat.le_max_left _ _⟩, h2⟩
  · refine (tx_raise_no w h a b (by omega)).mono ?_
    rintro e w1 ⟨rfl, hb⟩
    exact ⟨_, rfl, ⟨_, _, h.below hb, Nat.le_refl _, Nat.le_refl _⟩, OthersKept.of_below hb⟩
theorem tx_begin_any (w : World) {g m c tx number : Nat} {T : TT} (h : TtAt w g m c tx number T) :
    Calls Try.prog 43 #[.pointer (some ⟨g, 0, none⟩)] w fun e w' => ∃ v, e = .returned v ∧ (∃ tx' T', TtAt w' g m c tx' number T' ∧ tx ≤ tx') ∧ OthersKept w w' (mine g m c) := by
  by_cases h1 : T.length < 32 ∧ tx ≤ 4611686018427387904
  · refine (tx_begin w h h1.1 h1.2).mono ?_
    rintro e w1 ⟨rfl, h1, h2⟩
    exact ⟨_, rfl, ⟨_, _, h1, by omega⟩, h2⟩
  · refine (tx_begin_full w h (by omega)).mono ?_
    rintro e w1 ⟨rfl, hb⟩
    exact ⟨_, rfl, ⟨_, _, h.below hb, Nat.le_refl _⟩, OthersKept.of_below hb⟩
theorem txA_new (w : World) : Calls Try.prog 37 #[.int .u64 1, .int .u64 1] w fun e w' => ∃ g m c, e = .returned (.tuple #[.pointer (some ⟨g, 0, none⟩), .int .i64 0]) ∧ TtAt w' g m c 1 1 [] ∧ w.heap.size ≤ g ∧ w.heap.size ≤ m ∧ w.heap.size ≤ c ∧ Below w.heap.size w w' := tx_new w 1 1 (by omega) (by omega) (by omega) (by omega)

set_option maxHeartbeats 4000000 in
set_option maxRecDepth 100000 in
/-- TxnRaise's law. -/
theorem txnRaise_any (a : Option Addr) (b o len cap : Nat) (L : List XA) (w : World) (hL : XActsAt w a b o len L) :
    Calls Try.prog 8 #[.slice a len cap] w fun e w' => e = .returned (.bool true) ∧ Below w.heap.size w w' := by
  have hle := hL.le
  have WO := Lib.hid fun W => txworks_any W
  by_cases h100 : 100 < len
  case pos =>
    have e1 : 100 < (len : Int) := by omega
    clear hL
    go_enter Try.func8, Try.ntmps8
    go_wp2_with fail
    refine (WO.out _).mono ?_
    rintro e w1 ⟨rfl, hb⟩
    have HB := Lib.hid hb
    clear hb
    go_wp2_with fail
    go_ret
    exact ⟨rfl, HB.out⟩
  have e1 : ¬ 100 < (len : Int) := by omega
  have HL := Lib.hid hL
  clear hL
  go_enter Try.func8, Try.ntmps8
  go_wp2_with fail
  refine (txA_new _).mono ?_
  rintro e w1 ⟨g, m, c, rfl, h1, hg, hm, hc, hb1⟩
  have HB1 := Lib.hid hb1
  have N1 := Lib.hid (tx_next w1 h1)
  have H1 := Lib.hid h1
  clear h1 hb1
  go_wp2_with fail
  refine N1.out.mono ?_
  rintro e w2 ⟨rfl, hb⟩
  have HB2 := Lib.hid (below_then HB1.out hb)
  have H2 := Lib.hid (H1.out.below hb)
  clear hb
  go_wp2_with fail
  go_loopw [5, 6, 7] (fun s5 s6 s7 wr => ∃ (i tx no : Nat) (T : TT), i ≤ len ∧ s5 = .int .u64 (tx : Nat) ∧ s6 = .int .u64 (no : Nat) ∧ s7 = .int .i64 i ∧ TtAt wr g m c tx no T ∧ Below w.heap.size w wr) (fun _ _ i _ => len - (intOf i).toNat)
  case atStart => exact ⟨0, 1, 1, [], Nat.zero_le _, rfl, rfl, rfl, H2.out, HB2.out⟩
  case round =>
    obtain ⟨i, tx, no, T, hi, rfl, rfl, rfl, hT, hB⟩ := hrel
    have HT := Lib.hid hT
    have HB := Lib.hid hB
    clear hT hB H1 H2 HB1 HB2 N1
    by_cases hlt : i < len
    case neg =>
      obtain rfl : i = len := by omega
      go_wp2_with fail
      refine (WO.out _).mono ?_
      rintro e w3 ⟨rfl, hb⟩
      have HB3 := Lib.hid (below_then HB.out hb)
      clear hb
      go_wp2_with fail
      go_ret
      exact ⟨rfl, HB3.out⟩
    obtain ⟨rfl, hbl⟩ := HL.out.at_ (by omega)
    have hiL : i < L.length := by rw [HL.out.n]; exact hlt
    obtain ⟨c0, c1, c2, c3, c4, c5, c6, c7, c8, c9⟩ := (HL.out.below HB.out).cell i hiL
    have hok := HL.out.ok _ (List.getElem_mem hiL)
    have q0 : (0 : Int) ≤ (i : Int) := by omega
    have q1 : (i : Int) < (len : Int) := by omega
    generalize L[i] = A at *
    obtain ⟨D, ax, ⟨xt, xf, xl, xn, xp, xs⟩, an, wh⟩ := A
    simp only at c0 c1 c2 c3 c4 c5 c6 c7 c8 c9 hok
    obtain ⟨_, _, hxt, _⟩ := hok
    have hxt2 : xt < 18446744073709551616 := by simpa using hxt
    have HA2 := Lib.hid (heap_alloc_new wr (.cells #[.int .u8 (D : Nat), .int .u64 (ax : Nat), .int .u64 (xt : Nat), .int .u64 (xf : Nat), .int .u64 (xl : Nat), .int .u64 (xn : Nat), .int .u32 (xp : Nat), .int .u16 (xs : Nat), .int .u64 (an : Nat), .int .u8 (wh : Nat)] 70))
    have hB2 : Below wr.heap.size wr (wr.alloc (.cells #[.int .u8 (D : Nat), .int .u64 (ax : Nat), .int .u64 (xt : Nat), .int .u64 (xf : Nat), .int .u64 (xl : Nat), .int .u64 (xn : Nat), .int .u32 (xp : Nat), .int .u16 (xs : Nat), .int .u64 (an : Nat), .int .u8 (wh : Nat)] 70)) := (Below.refl _ _).alloc (Nat.le_refl _) _
    have HT2 := Lib.hid (HT.out.below hB2)
    have HB2 := Lib.hid (below_then HB.out hB2)
    have hbp := HB.out.size
    have hgl := HT.out.lt
    clear hB2 hxt
    obtain ⟨r, hr⟩ : ∃ r, r = D % 3 := ⟨_, rfl⟩
    have m3 : ((D : Int)).tmod 3 = (r : Nat) := by rw [Int.tmod_eq_emod_of_nonneg (by omega)]; omega
    have hr3 : r = 0 ∨ r = 1 ∨ r = 2 := by omega
    have hw8 : IntKind.u8.wrap ((r : Nat) : Int) = (r : Nat) := by rw [IntKind.wrap_u8]; omega
    clear hr
    go_upto_block 2 with fail
    go_cut [] (fun w' => ∃ (tx' no' : Nat) (T' : TT), TtAt w' g m c tx' no' T' ∧ tx ≤ tx' ∧ no ≤ no' ∧ Below w.heap.size w w')
    case first =>
      generalize hbp0 : wr.heap.size = bp at *
      clear c0 c1 c2 c3 c4 c5 c6 c7 c8 c9 m3
      generalize wr.alloc (.cells #[.int .u8 (D : Nat), .int .u64 (ax : Nat), .int .u64 (xt : Nat), .int .u64 (xf : Nat), .int .u64 (xl : Nat), .int .u64 (xn : Nat), .int .u32 (xp : Nat), .int .u16 (xs : Nat), .int .u64 (an : Nat), .int .u8 (wh : Nat)] 70) = W3 at *
      have p1 : W3.cell? ⟨bp, 1, none⟩ = some (.int .u64 (ax : Nat)) := by rw [blk_cell HA2.out]; rfl
      have p8 : W3.cell? ⟨bp, 8, none⟩ = some (.int .u64 (an : Nat)) := by rw [blk_cell HA2.out]; rfl
      have p2 : W3.cell? ⟨bp, 2, none⟩ = some (.int .u64 (xt : Nat)) := by rw [blk_cell HA2.out]; rfl
      have p3 : W3.cell? ⟨bp, 3, none⟩ = some (.int .u64 (xf : Nat)) := by rw [blk_cell HA2.out]; rfl
      have p4 : W3.cell? ⟨bp, 4, none⟩ = some (.int .u64 (xl : Nat)) := by rw [blk_cell HA2.out]; rfl
      have p5 : W3.cell? ⟨bp, 5, none⟩ = some (.int .u64 (xn : Nat)) := by rw [blk_cell HA2.out]; rfl
      have p6 : W3.cell? ⟨bp, 6, none⟩ = some (.int .u32 (xp : Nat)) := by rw [blk_cell HA2.out]; rfl
      have p7 : W3.cell? ⟨bp, 7, none⟩ = some (.int .u16 (xs : Nat)) := by rw [blk_cell HA2.out]; rfl
      rcases hr3 with rfl | rfl | rfl
      · clear hw8
        have RA := Lib.hid (tx_raise_any W3 HT2.out ax an)
        go_wp2_with fail
        refine RA.out.mono ?_
        rintro e w4 ⟨v, rfl, ⟨tx', no', h4, h5, h6⟩, hk4⟩
        have H4 := Lib.hid h4
        have HB4 := Lib.hid (below_mine HB2.out hk4 hg hm hc)
        clear h4 hk4
        go_wp2_with fail
        go_meet
        exact ⟨tx', no', T, H4.out, h5, h6, HB4.out⟩
      · clear hw8
        by_cases hok : getT T xt = none ∧ 1 ≤ xt ∧ xt ≤ 4611686018427387904 ∧ T.length < 32
        · have AD : Hid (Calls Try.prog 46 #[.pointer (some ⟨g, 0, none⟩), .agg #[.int .u64 (xt : Nat), .int .u64 (xf : Nat), .int .u64 (xl : Nat), .int .u64 (xn : Nat), .int .u32 (xp : Nat), .int .u16 (xs : Nat)]] W3 fun e w' => e = .returned (.int .i64 0) ∧ TtAt w' g m c (max tx (xt + 1)) no (insT T (⟨xt, xf, xl, xn, xp, xs⟩ : TX)) ∧ OthersKept W3 w' (mine g m c)) := tx_add W3 HT2.out (⟨xt, xf, xl, xn, xp, xs⟩ : TX) hok.1 hok.2.1 hok.2.2.1 hok.2.2.2
          have hgx : getT (insT T (⟨xt, xf, xl, xn, xp, xs⟩ : TX)) xt = some (⟨xt, xf, xl, xn, xp, xs⟩ : TX) := by rw [T_get_ins HT.out.rising hok.1]; simp
          have HGX := Lib.hid hgx
          clear hok hgx
          go_wp2_with fail
          refine AD.out.mono ?_
          rintro e w4 ⟨rfl, h4, hk4⟩
          have HB4 := Lib.hid (below_mine HB2.out hk4 hg hm hc)
          have hA4 := hk4.heap HA2.out (by rintro (e | e | e) <;> omega)
          have G4 := Lib.hid (tx_get w4 h4 xt hxt2)
          rw [HGX.out] at G4
          have H4 := Lib.hid h4
          have HA4 := Lib.hid hA4
          clear h4 hk4 p1 p2 p3 p4 p5 p6 p7 p8
          have p2 : w4.cell? ⟨bp, 2, none⟩ = some (.int .u64 (xt : Nat)) := by rw [blk_cell hA4]; rfl
          clear hA4
          go_wp2_with fail
          refine G4.out.mono ?_
          rintro e w5 ⟨rfl, hb⟩
          have hA5 := (hb.block _ (blk_lt HA4.out)).trans HA4.out
          have hB5 := (Below.refl w5.heap.size w5).alloc (Nat.le_refl _) (.cells #[.int .u64 (xt : Nat), .int .u64 (xf : Nat), .int .u64 (xl : Nat), .int .u64 (xn : Nat), .int .u32 (xp : Nat), .int .u16 (xs : Nat)] 68)
          have hA6 := (hB5.block _ (blk_lt hA5)).trans hA5
          have hX6 := heap_alloc_new w5 (.cells #[.int .u64 (xt : Nat), .int .u64 (xf : Nat), .int .u64 (xl : Nat), .int .u64 (xn : Nat), .int .u32 (xp : Nat), .int .u16 (xs : Nat)] 68)
          have H6 := Lib.hid (H4.out.below (below_then hb hB5))
          have HB6 := Lib.hid (below_then HB4.out (below_then hb hB5))
          have HA6 := Lib.hid hA6
          have HX6 := Lib.hid hX6
          have nx := neX_self (⟨xt, xf, xl, xn, xp, xs⟩ : TX)
          simp only [TX.val] at nx
          clear hb hA5 hB5 hA6 hX6 p2
          go_upto_region 18 with fail
          generalize w5.heap.size = xb at *
          generalize w5.alloc (.cells #[.int .u64 (xt : Nat), .int .u64 (xf : Nat), .int .u64 (xl : Nat), .int .u64 (xn : Nat), .int .u32 (xp : Nat), .int .u16 (xs : Nat)] 68) = W6 at *
          obtain ⟨⟨x0, x1, x2, x3, x4, x5⟩, _⟩ := cells6 HX6.out
          have p2 : W6.cell? ⟨bp, 2, none⟩ = some (.int .u64 (xt : Nat)) := by rw [blk_cell HA6.out]; rfl
          have p3 : W6.cell? ⟨bp, 3, none⟩ = some (.int .u64 (xf : Nat)) := by rw [blk_cell HA6.out]; rfl
          have p4 : W6.cell? ⟨bp, 4, none⟩ = some (.int .u64 (xl : Nat)) := by rw [blk_cell HA6.out]; rfl
          have p5 : W6.cell? ⟨bp, 5, none⟩ = some (.int .u64 (xn : Nat)) := by rw [blk_cell HA6.out]; rfl
          have p6 : W6.cell? ⟨bp, 6, none⟩ = some (.int .u32 (xp : Nat)) := by rw [blk_cell HA6.out]; rfl
          have p7 : W6.cell? ⟨bp, 7, none⟩ = some (.int .u16 (xs : Nat)) := by rw [blk_cell HA6.out]; rfl
          go_wp2_with fail
          go_meet
          exact ⟨_, no, _, H6.out, Nat.le_max_left _ _, Nat.le_refl _, HB6.out⟩
        · have AD : Hid (Calls Try.prog 46 #[.pointer (some ⟨g, 0, none⟩), .agg #[.int .u64 (xt : Nat), .int .u64 (xf : Nat), .int .u64 (xl : Nat), .int .u64 (xn : Nat), .int .u32 (xp : Nat), .int .u16 (xs : Nat)]] W3 fun e w' => e = .returned (.int .i64 (if xt = 0 ∨ 4611686018427387904 < xt then 2 else if (getT T xt).isSome then 8 else 4)) ∧ Below W3.heap.size W3 w') := tx_add_no W3 HT2.out (⟨xt, xf, xl, xn, xp, xs⟩ : TX) hxt2 (by
            show xt = 0 ∨ _ < xt ∨ (getT T xt).isSome = true ∨ _
            cases hq : getT T xt with
            | some y => exact .inr (.inr (.inl rfl))
            | none => rw [hq] at hok; simp at hok; omega)
          obtain ⟨E, hE⟩ : ∃ E : Int, E = (if xt = 0 ∨ 4611686018427387904 < xt then 2 else if (getT T xt).isSome then 8 else 4) := ⟨_, rfl⟩
          have hE0 : (E == 0) = false := by rw [hE]; split; rfl; split <;> rfl
          rw [← hE] at AD
          clear hok hE
          go_wp2_with fail
          refine AD.out.mono ?_
          rintro e w4 ⟨rfl, hb⟩
          have HB4 := Lib.hid (below_then HB2.out hb)
          have hA4 := (hb.block _ (blk_lt HA2.out)).trans HA2.out
          have h4 := HT2.out.below hb
          have G4 := Lib.hid (tx_get w4 h4 xt hxt2)
          have H4 := Lib.hid h4
          clear h4 hb p1 p2 p3 p4 p5 p6 p7 p8
          have p2 : w4.cell? ⟨bp, 2, none⟩ = some (.int .u64 (xt : Nat)) := by rw [blk_cell hA4]; rfl
          generalize (getT T xt).isSome = is at *
          generalize (getT T xt).getD (tx0 0) = y at *
          obtain ⟨yt, yf, yl, yn, yp, ys⟩ := y
          clear hA4
          go_wp2_with fail
          refine G4.out.mono ?_
          rintro e w5 ⟨rfl, hb⟩
          have hB5 := (Below.refl w5.heap.size w5).alloc (Nat.le_refl _) (.cells #[.int .u64 (yt : Nat), .int .u64 (yf : Nat), .int .u64 (yl : Nat), .int .u64 (yn : Nat), .int .u32 (yp : Nat), .int .u16 (ys : Nat)] 68)
          have H6 := Lib.hid (H4.out.below (below_then hb hB5))
          have HB6 := Lib.hid (below_then HB4.out (below_then hb hB5))
          clear hb hB5 p2
          go_wp2_with fail
          go_meet
          exact ⟨_, no, _, H6.out, Nat.le_refl _, Nat.le_refl _, HB6.out⟩
      · clear hw8
        have BE := Lib.hid (tx_begin_any W3 HT2.out)
        go_wp2_with fail
        refine BE.out.mono ?_
        rintro e w4 ⟨v, rfl, ⟨tx', T', h4, h5⟩, hk4⟩
        have H4 := Lib.hid h4
        have HB4 := Lib.hid (below_mine HB2.out hk4 hg hm hc)
        clear h4 hk4
        go_wp2_with fail
        go_meet
        exact ⟨tx', no, T', H4.out, h5, Nat.le_refl _, HB4.out⟩
    case rest =>
      obtain ⟨tx', no', T', h3, ht, hn, hb3⟩ := hcut
      clear c0 c1 c2 c3 c4 c5 c6 c7 c8 c9 m3 hr3 hw8
      have N3 := Lib.hid (tx_next wc h3)
      have H3 := Lib.hid h3
      have HB3 := Lib.hid hb3
      have f1 : ¬ (tx' : Int) < (tx : Int) := by omega
      have f2 : ¬ (no' : Int) < (no : Int) := by omega
      clear h3 hb3
      go_wp2_with fail
      refine N3.out.mono ?_
      rintro e w4 ⟨rfl, hb⟩
      have h4 := H3.out.below hb
      have A4 := Lib.hid (tx_all w4 h4)
      have H4 := Lib.hid h4
      have HB4 := Lib.hid (below_then HB3.out hb)
      clear h4 hb
      go_wp2_with fail
      refine A4.out.mono ?_
      rintro e w5 ⟨v, rfl, ho, hb⟩
      have H5 := Lib.hid (H4.out.below hb)
      have HB5 := Lib.hid (below_then HB4.out hb)
      obtain ⟨vb, vc, rfl, hcp, hcm, hbb⟩ := own_form6 ho
      have HC : Hid (∀ (k : Nat) (hk : k < T'.length), ∃ gv, vb = some ⟨gv, 0, none⟩ ∧ w5.cell? ⟨gv, k * 6, none⟩ = some (.int .u64 ((T'[k]).tx : Nat))) := by
        show ∀ (k : Nat), _
        intro k hk
        obtain ⟨gv, rfl⟩ := hbb (by omega)
        refine ⟨gv, rfl, own_cell6 ho (k * 6) _ ?_⟩
        have := cellsT_get T' k 0 hk (by omega)
        rw [Nat.add_zero] at this
        rw [this]
        rfl
      have hsm := H5.out.small
      clear ho hb hbb
      go_wp2_with fail
      go_loopw [15] (fun s15 wr2 => ∃ k : Nat, k ≤ T'.length ∧ s15 = .int .i64 k ∧ Below w5.heap.size w5 wr2) (fun k _ => T'.length - (intOf k).toNat)
      case atStart => exact ⟨0, Nat.zero_le _, rfl, Below.refl _ _⟩
      case round =>
        obtain ⟨k, hk, rfl, hbk⟩ := hrel
        have HBk := Lib.hid hbk
        clear hbk
        by_cases hkl : k < T'.length
        · obtain ⟨gv, rfl, hc1⟩ := HC.out k hkl
          have t1 := keep_cell HBk.out hc1
          have hu := H5.out.under _ (List.getElem_mem hkl)
          have z0 : (0 : Int) ≤ (k : Int) := by omega
          have z1 : (k : Int) < (T'.length : Int) := by omega
          have z2 : ¬ (tx' : Int) ≤ ((T'[k]).tx : Nat) := by omega
          have e1 := ext_cell t1 (cell_lt t1)
          rcases Nat.eq_zero_or_pos k with rfl | hk0
          · generalize (T'[0]).tx = x0 at *
            have z3 : ¬ (0 : Int) < 0 := by omega
            simp only [Nat.zero_mul] at e1 t1 hc1
            go_upto_region 27 with fail
            refine wp_region_ext wr.heap.size (by kernel_rfl) (by kernel_rfl) ?_
            repeat (go_big_quiet_step (fail))
            refine wpQuiet_nil ?_
            rintro _ ⟨X, rfl⟩
            have HX := Lib.hid (below_then HBk.out X.below)
            go_wp2_with fail
            go_roundw
            case rel => exact ⟨1, by omega, by go_num, HX.out⟩
            case measure => simp [intOf]; omega
          · obtain ⟨j, hj⟩ : ∃ j, k = j + 1 := ⟨k - 1, by omega⟩
            have hjl : j < T'.length := by omega
            obtain ⟨_, e0, hc2⟩ := HC.out j hjl
            injection e0 with e0
            injection e0 with e0
            subst e0
            have t2 := keep_cell HBk.out hc2
            have e2 := ext_cell t2 (cell_lt t2)
            have hr := List.pairwise_iff_getElem.1 H5.out.rising j k hjl hkl (by omega)
            have z3 : (0 : Int) < (k : Int) := by omega
            have z4 : (k : Int) - 1 = (j : Int) := by omega
            have z5 : (0 : Int) ≤ (j : Int) := by omega
            have z6 : (j : Int) < (T'.length : Int) := by omega
            have z7 : ¬ ((T'[k]).tx : Int) ≤ ((T'[j]).tx : Int) := by omega
            have z8 : decide (0 < k) = true := by simpa using hk0
            have z9 : decide ((T'[k]).tx ≤ (T'[j]).tx) = false := by simp; omega
            generalize (T'[k]).tx = x0 at *
            generalize (T'[j]).tx = x1 at *
            clear hj hk0 hr
            go_upto_region 27 with fail
            refine wp_region_ext wr.heap.size (by kernel_rfl) (by kernel_rfl) ?_
            repeat (go_big_quiet_step (fail))
            refine wpQuiet_nil ?_
            rintro _ ⟨X, rfl⟩
            have HX := Lib.hid (below_then HBk.out X.below)
            go_wp2_with fail
            go_roundw
            case rel => exact ⟨k + 1, by omega, by go_num, HX.out⟩
            case measure => simp [intOf]; omega
        · obtain rfl : k = T'.length := by omega
          go_wp2_with fail
          go_roundw
          case rel => exact ⟨i + 1, tx', no', T', by omega, rfl, rfl, by go_num, (H5.out.below HBk.out), below_then HB5.out HBk.out⟩
          case measure => simp [intOf]; omega

end Go.Proofs.Ytoeaakadpillnaa
