/- chapter 23: TxnOnce. -/
import Derived.Test.YtoeaakadpillnaaRows
import Derived.Test.YtoeaakadpillnaaTxnRaiseLaw
import Derived.Deep.CutBlock
import Derived.WalkKit
import Derived.WalkLawsBesides
import Derived.WalkSpells
import Derived.LoopTactic
import Derived.WalkMore
import Derived.LoopN
import Derived.Laws.BitsAllLaws
import Derived.Laws.IdiomStrings
import Derived.BigQuiet
import Derived.Deep.QuietTactic
import Derived.Deep.DeepCutAuto
import Derived.Deep.RegionHeld3
import Derived.Deep.DrawnRows
import Derived.Lib.Hide
import Derived.Outline
import Derived.Deep.DeepMust
import Derived.Handy
namespace Go.Proofs.Ytoeaakadpillnaa
open Go.RowKit
set_option linter.unusedVariables false
set_option linter.unusedSimpArgs false

open Go.Maps
theorem TtAt.rlen {w : World} {g m c tx number : Nat} {T : TT} (h : TtAt w g m c tx number T) : T.length ≤ 32 := h.small
/-- What is kept from round to round. -/
structure OnceAt (w wr : World) (g m c id nb tx no i : Nat) (T : TT) : Prop where
  tt : TtAt wr g m c tx no T
  below : Below w.heap.size w wr
  id : id < tx
  nb : nb < no
  txs : tx ≤ 1 + i
  nos : no ≤ 1 + i

set_option maxHeartbeats 4000000 in
set_option maxRecDepth 100000 in
/-- TxnOnce's law. -/
theorem txnOnce_any (a : Option Addr) (b o len cap : Nat) (L : List XA) (w : World) (hL : XActsAt w a b o len L) :
    Calls Try.prog 7 #[.slice a len cap] w fun e w' => e = .returned (.bool true) ∧ Below w.heap.size w w' := by
  have hle := hL.le
  have WO := Lib.hid fun W => txworks_any W
  by_cases h150 : 150 < len
  case pos =>
    have e1 : 150 < (len : Int) := by omega
    clear hL
    go_enter Try.func7, Try.ntmps7
    go_wp2_with fail
    refine (WO.out _).mono ?_
    rintro e w1 ⟨rfl, hb⟩
    have HB := Lib.hid hb
    clear hb
    go_wp2_with fail
    go_ret
    exact ⟨rfl, HB.out⟩
  have e1 : ¬ 150 < (len : Int) := by omega
  have HL := Lib.hid hL
  clear hL
  go_enter Try.func7, Try.ntmps7
  go_wp2_with fail
  refine (txA_new _).mono ?_
  rintro e w1 ⟨g, m, c, rfl, h1, hg, hm, hc, hb1⟩
  have HO1 : Hid (OnceAt w w1 g m c 0 0 1 1 0 []) := ⟨h1, hb1, by omega, by omega, by omega, by omega⟩
  clear h1 hb1
  go_wp2_with fail
  go_loopw [5, 6, 7, 8] (fun s5 s6 s7 s8 wr => ∃ (i id nb tx no : Nat) (T : TT), i ≤ len ∧ s5 = .int .u64 (id : Nat) ∧ s6 = .int .u64 (nb : Nat) ∧ s7 = .int .i64 (T.length : Nat) ∧ s8 = .int .i64 i ∧ OnceAt w wr g m c id nb tx no i T) (fun _ _ _ i _ => len - (intOf i).toNat)
  case atStart => exact ⟨0, 0, 0, 1, 1, [], Nat.zero_le _, rfl, rfl, rfl, rfl, HO1.out⟩
  case round =>
    obtain ⟨i, id, nb, tx, no, T, hi, rfl, rfl, rfl, rfl, hO⟩ := hrel
    have HO := Lib.hid hO
    clear hO HO1
    by_cases hlt : i < len
    case neg =>
      obtain rfl : i = len := by omega
      go_wp2_with fail
      refine (WO.out _).mono ?_
      rintro e w3 ⟨rfl, hb⟩
      have HB3 := Lib.hid (below_then HO.out.below hb)
      clear hb
      go_wp2_with fail
      go_ret
      exact ⟨rfl, HB3.out⟩
    obtain ⟨rfl, hbl⟩ := HL.out.at_ (by omega)
    have hiL : i < L.length := by rw [HL.out.n]; exact hlt
    have hok := HL.out.ok _ (List.getElem_mem hiL)
    have HCE := Lib.hid fun W (hW : Below w.heap.size w W) => (HL.out.below hW).cell i hiL
    have q0 : (0 : Int) ≤ (i : Int) := by omega
    have q1 : (i : Int) < (len : Int) := by omega
    generalize L[i] = A at *
    obtain ⟨D, ax, ⟨xt, xf, xl, xn, xp, xs⟩, an, wh⟩ := A
    simp only at HCE hok
    have hax : ax < 18446744073709551616 := by have := hok.2.1; simpa using this
    have hwh : wh < 256 := hok.2.2.2.2.2.2.2.2.2
    clear hok
    obtain ⟨hT, hB, hid, hnb, htx, hno⟩ := HO.out
    have hsm := hT.small
    have A1 := Lib.hid (tx_all wr hT)
    have HT := Lib.hid hT
    have HB := Lib.hid hB
    clear hT hB
    go_wp2_with fail
    refine A1.out.mono ?_
    rintro e w2 ⟨v, rfl, ho, hb⟩
    have HT2 := Lib.hid (HT.out.below hb)
    have HB2 := Lib.hid (below_then HB.out hb)
    obtain ⟨vb, vc, rfl, hcp, hcm, hbb⟩ := own_form6 ho
    have HC : Hid (∀ (k : Nat) (hk : k < T.length), ∃ gv, vb = some ⟨gv, 0, none⟩ ∧ w2.cell? ⟨gv, k * 6, none⟩ = some (.int .u64 ((T[k]).tx : Nat))) := by
      show ∀ (k : Nat), _
      intro k hk
      obtain ⟨gv, rfl⟩ := hbb (by omega)
      refine ⟨gv, rfl, own_cell6 ho (k * 6) _ ?_⟩
      have := cellsT_get T k 0 hk (by omega)
      rw [Nat.add_zero] at this
      rw [this]
      rfl
    clear ho hb hbb
    obtain ⟨c0, c1, c2, c3, c4, c5, c6, c7, c8, c9⟩ := HCE.out _ HB2.out
    clear c2 c3 c4 c5 c6 c7 c8
    go_upto_region 15 with fail
    go_cut [65] (fun s65 w' => (∃ bb : Bool, s65 = .bool bb ∧ (bb = true → 0 < T.length ∧ 0 < wh)) ∧ w' = w2)
    case first =>
      clear c0 c1
      rcases Nat.eq_zero_or_pos T.length with h0 | h0
      · have z1 : ¬ (0 : Int) < (T.length : Int) := by omega
        have z2 : decide (0 < T.length) = false := by simp [h0]
        clear h0
        go_wp2_with fail
        go_meet
        exact ⟨⟨false, rfl, fun h => by cases h⟩, rfl⟩
      · have z1 : (0 : Int) < (T.length : Int) := by omega
        have z2 : decide (0 < T.length) = true := by simpa using h0
        go_wp2_with fail
        go_meet
        exact ⟨⟨decide (0 < wh), rfl, fun h => ⟨h0, by simpa using h⟩⟩, rfl⟩
    case rest =>
      obtain ⟨⟨bb, rfl, hbt⟩, rfl⟩ := hcut
      have HBT := Lib.hid hbt
      clear hbt
      go_upto_if 65 with fail
      go_cut [10] (fun s10 w' => (∃ k : Nat, k < 18446744073709551616 ∧ s10 = .int .u64 (k : Nat)) ∧ w' = wc)
      case first =>
        cases bb with
        | false =>
          go_wp2_with fail
          go_meet
          exact ⟨⟨ax, hax, rfl⟩, rfl⟩
        | true =>
          obtain ⟨h0, hw0⟩ := HBT.out rfl
          obtain ⟨kk, hkk⟩ : ∃ kk, kk = wh % T.length := ⟨_, rfl⟩
          have hkl : kk < T.length := by rw [hkk]; exact Nat.mod_lt _ h0
          obtain ⟨gv, rfl, ht⟩ := HC.out kk hkl
          have t1 : ((wh : Nat) : Int).tmod (T.length : Int) = (kk : Int) := by rw [Int.tmod_eq_emod_of_nonneg (by omega)]; rw [hkk]; exact (Int.natCast_emod _ _).symm
          have t2 : IntKind.i64.wrap ((kk : Nat) : Int) = (kk : Int) := by rw [IntKind.wrap_i64]; omega
          have t3 : ¬ T.length = 0 := by omega
          have t4 : (0 : Int) ≤ (kk : Int) := by omega
          have t5 : (kk : Int) < (T.length : Int) := by omega
          have hlt2 := HT2.out.under _ (List.getElem_mem hkl)
          have hle2 := HT2.out.txle
          have hx : (T[kk]).tx < 18446744073709551616 := by omega
          generalize (T[kk]).tx = K at *
          clear hkk
          go_wp2_with fail
          go_meet
          exact ⟨⟨K, hx, rfl⟩, rfl⟩
      case rest =>
        obtain ⟨⟨k, hk, rfl⟩, rfl⟩ := hcut
        have G2 := Lib.hid (tx_get wc HT2.out k hk)
        obtain ⟨is, his⟩ : ∃ is, is = (getT T k).isSome := ⟨_, rfl⟩
        have HIS := Lib.hid his
        rw [← his] at G2
        clear c1 c9 his HBT
        generalize (getT T k).getD (tx0 0) = y at *
        obtain ⟨yt, yf, yl, yn, yp, ys⟩ := y
        go_wp2_with fail
        refine G2.out.mono ?_
        rintro e w4 ⟨rfl, hb⟩
        have hB4 := (Below.refl w4.heap.size w4).alloc (Nat.le_refl _) (.cells #[.int .u64 (yt : Nat), .int .u64 (yf : Nat), .int .u64 (yl : Nat), .int .u64 (yn : Nat), .int .u32 (yp : Nat), .int .u16 (ys : Nat)] 68)
        have HT4 := Lib.hid (HT2.out.below (below_then hb hB4))
        have HB4 := Lib.hid (below_then HB2.out (below_then hb hB4))
        clear hb hB4 c0
        go_upto_region 18 with fail
        simp only [TX.val]
        generalize w4.alloc (.cells #[.int .u64 (yt : Nat), .int .u64 (yf : Nat), .int .u64 (yl : Nat), .int .u64 (yn : Nat), .int .u32 (yp : Nat), .int .u16 (ys : Nat)] 68) = W4 at *
        obtain ⟨c0, c1, c2, c3, c4, c5, c6, c7, c8, c9⟩ := HCE.out _ HB4.out
        clear c1 c8 c9
        obtain ⟨r, hr⟩ : ∃ r, r = D % 6 := ⟨_, rfl⟩
        have m6 : ((D : Int)).tmod 6 = (r : Nat) := by rw [Int.tmod_eq_emod_of_nonneg (by omega)]; omega
        have hr6 : r = 1 ∨ r = 2 ∨ r = 3 ∨ (r = 0 ∨ r = 4 ∨ r = 5) := by omega
        have hw8 : IntKind.u8.wrap ((r : Nat) : Int) = (r : Nat) := by rw [IntKind.wrap_u8]; omega
        clear hr
        go_upto_block 2 with fail
        have HD := Lib.hid m6
        clear m6 hw8
        rcases hr6 with rfl | rfl | rfl | hr
        · -- commit
          as_aux_lemma =>
            cases hy : getT T k with
            | some y =>
              have hT1 : is = true := by rw [HIS.out, hy]; rfl
              subst hT1
              have CM := Lib.hid (tx_commit W4 HT4.out k hy (by omega))
              have hno5 := T_get_del HT.out.rising hy k
              rw [if_pos rfl] at hno5
              have hlen := T_length_del HT.out.rising hy
              have z1 : ¬ (no : Int) ≤ (nb : Int) := by omega
              have z2 : decide (no ≤ nb) = false := by simp; omega
              have z3 : (T.length : Int) - 1 = ((delT T k).length : Nat) := by omega
              have HLEN := Lib.hid hlen
              clear hy hlen c0 c2 c3 c4 c5 c6 c7
              go_wp2_with fail
              refine CM.out.mono ?_
              rintro e w5 ⟨rfl, h5, hk5⟩
              have HB5 := Lib.hid (below_mine HB4.out hk5 hg hm hc)
              clear hk5
              have G7 := Lib.hid (tx_get w5 h5 k hk)
              rw [hno5] at G7
              have H5 := Lib.hid h5
              clear h5
              go_wp2_with fail
              refine G7.out.mono ?_
              rintro e w6 ⟨rfl, hb⟩
              have hB6 := (Below.refl w6.heap.size w6).alloc (Nat.le_refl _) (.cells #[.int .u64 0, .int .u64 0, .int .u64 0, .int .u64 0, .int .u32 0, .int .u16 0] 68)
              have H7 := Lib.hid (H5.out.below (below_then hb hB6))
              have HB7 := Lib.hid (below_then HB5.out (below_then hb hB6))
              clear hb hB6
              go_wp2_with fail
              go_roundw
              case rel => exact ⟨i + 1, id, no, tx, no + 1, delT T k, by omega, rfl, rfl, rfl, by go_num, ⟨H7.out, HB7.out, hid, by omega, by omega, by omega⟩⟩
              case measure => simp [intOf]; omega
            | none =>
              have hT1 : is = false := by rw [HIS.out, hy]; rfl
              subst hT1
              have CM := Lib.hid (tx_commit_no W4 HT4.out k hk (.inl hy))
              rw [hy] at CM
              have hno5 := hy
              clear hy c0 c2 c3 c4 c5 c6 c7
              go_wp2_with fail
              refine CM.out.mono ?_
              rintro e w5 ⟨rfl, hb5⟩
              have h5 := HT4.out.below hb5
              have HB5 := Lib.hid (below_then HB4.out hb5)
              clear hb5
              have G7 := Lib.hid (tx_get w5 h5 k hk)
              rw [hno5] at G7
              have H5 := Lib.hid h5
              clear h5
              go_wp2_with fail
              refine G7.out.mono ?_
              rintro e w6 ⟨rfl, hb⟩
              have hB6 := (Below.refl w6.heap.size w6).alloc (Nat.le_refl _) (.cells #[.int .u64 0, .int .u64 0, .int .u64 0, .int .u64 0, .int .u32 0, .int .u16 0] 68)
              have H7 := Lib.hid (H5.out.below (below_then hb hB6))
              have HB7 := Lib.hid (below_then HB5.out (below_then hb hB6))
              clear hb hB6
              go_wp2_with fail
              go_roundw
              case rel => exact ⟨i + 1, id, nb, tx, no, T, by omega, rfl, rfl, rfl, by go_num, ⟨H7.out, HB7.out, hid, hnb, by omega, by omega⟩⟩
              case measure => simp [intOf]; omega
        · -- end
          as_aux_lemma =>
            cases hy : getT T k with
            | some y =>
              have hT1 : is = true := by rw [HIS.out, hy]; rfl
              subst hT1
              have CM := Lib.hid (tx_end W4 HT4.out k hy)
              have hno5 := T_get_del HT.out.rising hy k
              rw [if_pos rfl] at hno5
              have hlen := T_length_del HT.out.rising hy
              have z1 : ¬ (no : Int) ≤ (nb : Int) := by omega
              have z2 : decide (no ≤ nb) = false := by simp; omega
              have z3 : (T.length : Int) - 1 = ((delT T k).length : Nat) := by omega
              have HLEN := Lib.hid hlen
              clear hy hlen c0 c2 c3 c4 c5 c6 c7
              go_wp2_with fail
              refine CM.out.mono ?_
              rintro e w5 ⟨rfl, h5, hk5⟩
              have HB5 := Lib.hid (below_mine HB4.out hk5 hg hm hc)
              clear hk5
              have G7 := Lib.hid (tx_get w5 h5 k hk)
              rw [hno5] at G7
              have H5 := Lib.hid h5
              clear h5
              go_wp2_with fail
              refine G7.out.mono ?_
              rintro e w6 ⟨rfl, hb⟩
              have hB6 := (Below.refl w6.heap.size w6).alloc (Nat.le_refl _) (.cells #[.int .u64 0, .int .u64 0, .int .u64 0, .int .u64 0, .int .u32 0, .int .u16 0] 68)
              have H7 := Lib.hid (H5.out.below (below_then hb hB6))
              have HB7 := Lib.hid (below_then HB5.out (below_then hb hB6))
              clear hb hB6
              go_wp2_with fail
              go_roundw
              case rel => exact ⟨i + 1, id, nb, tx, no, delT T k, by omega, rfl, rfl, rfl, by go_num, ⟨H7.out, HB7.out, hid, hnb, by omega, by omega⟩⟩
              case measure => simp [intOf]; omega
            | none =>
              have hT1 : is = false := by rw [HIS.out, hy]; rfl
              subst hT1
              have CM := Lib.hid (tx_end_none W4 HT4.out k hk hy)
              have hno5 := hy
              clear hy c0 c2 c3 c4 c5 c6 c7
              go_wp2_with fail
              refine CM.out.mono ?_
              rintro e w5 ⟨rfl, hb5⟩
              have h5 := HT4.out.below hb5
              have HB5 := Lib.hid (below_then HB4.out hb5)
              clear hb5
              have G7 := Lib.hid (tx_get w5 h5 k hk)
              rw [hno5] at G7
              have H5 := Lib.hid h5
              clear h5
              go_wp2_with fail
              refine G7.out.mono ?_
              rintro e w6 ⟨rfl, hb⟩
              have hB6 := (Below.refl w6.heap.size w6).alloc (Nat.le_refl _) (.cells #[.int .u64 0, .int .u64 0, .int .u64 0, .int .u64 0, .int .u32 0, .int .u16 0] 68)
              have H7 := Lib.hid (H5.out.below (below_then hb hB6))
              have HB7 := Lib.hid (below_then HB5.out (below_then hb hB6))
              clear hb hB6
              go_wp2_with fail
              go_roundw
              case rel => exact ⟨i + 1, id, nb, tx, no, T, by omega, rfl, rfl, rfl, by go_num, ⟨H7.out, HB7.out, hid, hnb, by omega, by omega⟩⟩
              case measure => simp [intOf]; omega
        · -- set
          as_aux_lemma =>
            cases hy : getT T k with
            | some y =>
              have hT1 : is = true := by rw [HIS.out, hy]; rfl
              subst hT1
              have hBa := (Below.refl W4.heap.size W4).alloc (Nat.le_refl _) (.cells #[.int .u64 (k : Nat), .int .u64 (xf : Nat), .int .u64 (xl : Nat), .int .u64 (xn : Nat), .int .u32 (xp : Nat), .int .u16 (xs : Nat)] 68)
              have ha := heap_alloc_new W4 (.cells #[.int .u64 (k : Nat), .int .u64 (xf : Nat), .int .u64 (xl : Nat), .int .u64 (xn : Nat), .int .u32 (xp : Nat), .int .u16 (xs : Nat)] 68)
              have SE : Hid (Calls Try.prog 42 #[.pointer (some ⟨g, 0, none⟩), .agg #[.int .u64 (k : Nat), .int .u64 (xf : Nat), .int .u64 (xl : Nat), .int .u64 (xn : Nat), .int .u32 (xp : Nat), .int .u16 (xs : Nat)]] (W4.alloc (.cells #[.int .u64 (k : Nat), .int .u64 (xf : Nat), .int .u64 (xl : Nat), .int .u64 (xn : Nat), .int .u32 (xp : Nat), .int .u16 (xs : Nat)] 68)) fun e w' => e = .returned (.int .i64 0) ∧ TtAt w' g m c tx no (setT T (⟨k, xf, xl, xn, xp, xs⟩ : TX)) ∧ OthersKept (W4.alloc (.cells #[.int .u64 (k : Nat), .int .u64 (xf : Nat), .int .u64 (xl : Nat), .int .u64 (xn : Nat), .int .u32 (xp : Nat), .int .u16 (xs : Nat)] 68)) w' (mine g m c)) := tx_set _ (HT4.out.below hBa) (⟨k, xf, xl, xn, xp, xs⟩ : TX) hy
              have HBa := Lib.hid (below_then HB4.out hBa)
              have HA := Lib.hid ha
              have hgs := T_get_set HT.out.rising (y := (⟨k, xf, xl, xn, xp, xs⟩ : TX)) hy k
              rw [if_pos rfl] at hgs
              have HGS := Lib.hid hgs
              have hgl := HT4.out.lt
              have nx := neX_self (⟨k, xf, xl, xn, xp, xs⟩ : TX)
              simp only [TX.val] at nx
              clear hy ha hBa hgs
              go_upto_region 45 with fail
              generalize hxb : W4.heap.size = xb at *
              generalize W4.alloc (.cells #[.int .u64 (k : Nat), .int .u64 (xf : Nat), .int .u64 (xl : Nat), .int .u64 (xn : Nat), .int .u32 (xp : Nat), .int .u16 (xs : Nat)] 68) = W5 at *
              obtain ⟨⟨x0, x1, x2, x3, x4, x5⟩, _⟩ := cells6 HA.out
              clear c0 c2 c3 c4 c5 c6 c7
              go_wp2_with fail
              refine SE.out.mono ?_
              rintro e w6 ⟨rfl, h6, hk6⟩
              have HB6 := Lib.hid (below_mine HBa.out hk6 hg hm hc)
              have ha6 := hk6.heap HA.out (by rintro (e | e | e) <;> omega)
              have HA6 := Lib.hid ha6
              have G6 := Lib.hid (tx_get w6 h6 k hk)
              rw [HGS.out] at G6
              have H6 := Lib.hid h6
              clear x0 x1 x2 x3 x4 x5 h6 hk6 ha6
              go_wp2_with fail
              refine G6.out.mono ?_
              rintro e w7 ⟨rfl, hb⟩
              have hBy := (Below.refl w7.heap.size w7).alloc (Nat.le_refl _) (.cells #[.int .u64 (k : Nat), .int .u64 (xf : Nat), .int .u64 (xl : Nat), .int .u64 (xn : Nat), .int .u32 (xp : Nat), .int .u16 (xs : Nat)] 68)
              have ha7 := (hb.block _ (blk_lt HA6.out)).trans HA6.out
              have HA8 := Lib.hid ((hBy.block _ (blk_lt ha7)).trans ha7)
              have HY8 := Lib.hid (heap_alloc_new w7 (.cells #[.int .u64 (k : Nat), .int .u64 (xf : Nat), .int .u64 (xl : Nat), .int .u64 (xn : Nat), .int .u32 (xp : Nat), .int .u16 (xs : Nat)] 68))
              have H8 := Lib.hid (H6.out.below (below_then hb hBy))
              have HB8 := Lib.hid (below_then HB6.out (below_then hb hBy))
              clear hb hBy ha7
              go_upto_region 48 with fail
              generalize w7.heap.size = yb at *
              generalize w7.alloc (.cells #[.int .u64 (k : Nat), .int .u64 (xf : Nat), .int .u64 (xl : Nat), .int .u64 (xn : Nat), .int .u32 (xp : Nat), .int .u16 (xs : Nat)] 68) = W8 at *
              obtain ⟨⟨x0, x1, x2, x3, x4, x5⟩, _⟩ := cells6 HA8.out
              obtain ⟨⟨y0, y1, y2, y3, y4, y5⟩, _⟩ := cells6 HY8.out
              go_wp2_with fail
              go_roundw
              case rel => exact ⟨i + 1, id, nb, tx, no, setT T (⟨k, xf, xl, xn, xp, xs⟩ : TX), by omega, rfl, rfl, by rw [T_length_set], by go_num, ⟨H8.out, HB8.out, hid, hnb, by omega, by omega⟩⟩
              case measure => simp [intOf]; omega
            | none =>
              have hT1 : is = false := by rw [HIS.out, hy]; rfl
              subst hT1
              have hBa := (Below.refl W4.heap.size W4).alloc (Nat.le_refl _) (.cells #[.int .u64 (k : Nat), .int .u64 (xf : Nat), .int .u64 (xl : Nat), .int .u64 (xn : Nat), .int .u32 (xp : Nat), .int .u16 (xs : Nat)] 68)
              have ha := heap_alloc_new W4 (.cells #[.int .u64 (k : Nat), .int .u64 (xf : Nat), .int .u64 (xl : Nat), .int .u64 (xn : Nat), .int .u32 (xp : Nat), .int .u16 (xs : Nat)] 68)
              have SE : Hid (Calls Try.prog 42 #[.pointer (some ⟨g, 0, none⟩), .agg #[.int .u64 (k : Nat), .int .u64 (xf : Nat), .int .u64 (xl : Nat), .int .u64 (xn : Nat), .int .u32 (xp : Nat), .int .u16 (xs : Nat)]] (W4.alloc (.cells #[.int .u64 (k : Nat), .int .u64 (xf : Nat), .int .u64 (xl : Nat), .int .u64 (xn : Nat), .int .u32 (xp : Nat), .int .u16 (xs : Nat)] 68)) fun e w' => e = .returned (.int .i64 230) ∧ Below (W4.alloc (.cells #[.int .u64 (k : Nat), .int .u64 (xf : Nat), .int .u64 (xl : Nat), .int .u64 (xn : Nat), .int .u32 (xp : Nat), .int .u16 (xs : Nat)] 68)).heap.size (W4.alloc (.cells #[.int .u64 (k : Nat), .int .u64 (xf : Nat), .int .u64 (xl : Nat), .int .u64 (xn : Nat), .int .u32 (xp : Nat), .int .u16 (xs : Nat)] 68)) w') := tx_set_none _ (HT4.out.below hBa) (⟨k, xf, xl, xn, xp, xs⟩ : TX) hk hy
              have HBa := Lib.hid (below_then HB4.out hBa)
              have HTa := Lib.hid (HT4.out.below hBa)
              have HA := Lib.hid ha
              have HY := Lib.hid hy
              clear hy ha hBa
              go_upto_region 45 with fail
              generalize hxb : W4.heap.size = xb at *
              generalize W4.alloc (.cells #[.int .u64 (k : Nat), .int .u64 (xf : Nat), .int .u64 (xl : Nat), .int .u64 (xn : Nat), .int .u32 (xp : Nat), .int .u16 (xs : Nat)] 68) = W5 at *
              obtain ⟨⟨x0, x1, x2, x3, x4, x5⟩, _⟩ := cells6 HA.out
              clear c0 c2 c3 c4 c5 c6 c7
              go_wp2_with fail
              refine SE.out.mono ?_
              rintro e w6 ⟨rfl, hb⟩
              have h6 := HTa.out.below hb
              have HB6 := Lib.hid (below_then HBa.out hb)
              have G6 := Lib.hid (tx_get w6 h6 k hk)
              rw [HY.out] at G6
              have H6 := Lib.hid h6
              clear x0 x1 x2 x3 x4 x5 h6 hb
              go_wp2_with fail
              refine G6.out.mono ?_
              rintro e w7 ⟨rfl, hb⟩
              have hBy := (Below.refl w7.heap.size w7).alloc (Nat.le_refl _) (.cells #[.int .u64 0, .int .u64 0, .int .u64 0, .int .u64 0, .int .u32 0, .int .u16 0] 68)
              have H8 := Lib.hid (H6.out.below (below_then hb hBy))
              have HB8 := Lib.hid (below_then HB6.out (below_then hb hBy))
              clear hb hBy
              go_wp2_with fail
              go_roundw
              case rel => exact ⟨i + 1, id, nb, tx, no, T, by omega, rfl, rfl, rfl, by go_num, ⟨H8.out, HB8.out, hid, hnb, by omega, by omega⟩⟩
              case measure => simp [intOf]; omega
        · -- begin
          clear c0 c2 c3 c4 c5 c6 c7
          by_cases h32 : T.length < 32
          · have BE := Lib.hid (tx_begin W4 HT4.out h32 (by omega))
            have hn := T_under_none HT.out.under (Nat.le_refl tx)
            have hgi := T_get_ins HT.out.rising (x := tx0 tx) hn tx
            rw [if_pos rfl] at hgi
            have HGI := Lib.hid hgi
            have HLN := Lib.hid (T_length_ins T (tx0 tx))
            have z1 : ¬ (tx : Int) ≤ (id : Int) := by omega
            have htx64 : tx < 18446744073709551616 := by omega
            clear hn hgi
            rcases hr with rfl | rfl | rfl
            all_goals
              as_aux_lemma =>
                go_wp2_with fail
                refine BE.out.mono ?_
                rintro e w5 ⟨rfl, h5, hk5⟩
                have HB5 := Lib.hid (below_mine HB4.out hk5 hg hm hc)
                have G5 := Lib.hid (tx_get w5 h5 tx htx64)
                rw [HGI.out] at G5
                have H5 := Lib.hid h5
                clear h5 hk5
                go_wp2_with fail
                refine G5.out.mono ?_
                rintro e w6 ⟨rfl, hb⟩
                have hB6 := (Below.refl w6.heap.size w6).alloc (Nat.le_refl _) (.cells #[.int .u64 (tx : Nat), .int .u64 0, .int .u64 0, .int .u64 0, .int .u32 0, .int .u16 0] 68)
                have H7 := Lib.hid (H5.out.below (below_then hb hB6))
                have HB7 := Lib.hid (below_then HB5.out (below_then hb hB6))
                clear hb hB6
                go_wp2_with fail
                go_roundw
                case rel => exact ⟨i + 1, tx, nb, tx + 1, no, insT T (tx0 tx), by omega, rfl, rfl, by rw [HLN.out]; go_num, by go_num, ⟨H7.out, HB7.out, by omega, hnb, by omega, by omega⟩⟩
                case measure => simp [intOf]; omega
          · have h32e : T.length = 32 := by omega
            have BE := Lib.hid (tx_begin_full W4 HT4.out (.inl (by omega)))
            clear h32
            rcases hr with rfl | rfl | rfl
            all_goals
              as_aux_lemma =>
                go_wp2_with fail
                refine BE.out.mono ?_
                rintro e w5 ⟨rfl, hb⟩
                have H7 := Lib.hid (HT4.out.below hb)
                have HB7 := Lib.hid (below_then HB4.out hb)
                clear hb
                go_wp2_with fail
                go_roundw
                case rel => exact ⟨i + 1, id, nb, tx, no, T, by omega, rfl, rfl, by rw [h32e]; rfl, by go_num, ⟨H7.out, HB7.out, hid, hnb, by omega, by omega⟩⟩
                case measure => simp [intOf]; omega

end Go.Proofs.Ytoeaakadpillnaa
