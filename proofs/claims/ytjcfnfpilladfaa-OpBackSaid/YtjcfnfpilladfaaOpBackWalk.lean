/- OpBack: the walk -/
import Derived.Test.YtjcfnfpilladfaaRows
import Derived.Test.YtjcfnfpilladfaaRedoLaw
import Derived.Test.YtjcfnfpilladfaaBackLaw
import Derived.Test.YtjcfnfpilladfaaAll11
import Derived.Test.YtjcfnfpilladfaaPages11
import Derived.Test.YtjcfnfpilladfaaS32D
import Derived.Test.YtjcfnfpilladfaaOpDec
import Derived.Test.YtjcfnfpilladfaaOpEnc
import Derived.Test.YtjcfnfpilladfaaOpIn
import Derived.Test.YtjcfnfpilladfaaOpPlain
import Derived.Test.YtjcfnfpilladfaaOpLaw
import Derived.Test.YtjcfnfpilladfaaTextsP
import Derived.Test.YtjcfnfpilladfaaPlains
import Derived.Test.YtjcfnfpilladfaaBase
import Derived.Test.YtjcfnfpilladfaaHeavy11
import Derived.Test.YtjcfnfpilladfaaAlive11
import Derived.Test.YtjcfnfpilladfaaOpWrite
import Derived.Test.YtjcfnfpilladfaaNodeWeigh
import Derived.Test.YtjcfnfpilladfaaOpSame
import Derived.Deep.CutBlock
import Derived.WalkKit
import Derived.WalkLawsBesides
import Derived.WalkSpells
import Derived.LoopTactic
import Derived.WalkMore
import Derived.LoopN
import Derived.Laws.BitsAllLaws
import Derived.Laws.IdiomStrings
import Derived.BigQuiet
import Derived.Deep.QuietTactic
import Derived.Deep.DeepCutAuto
import Derived.Deep.RegionHeld3
import Derived.Deep.DrawnRows
import Derived.Lib.Hide
import Derived.Outline
import Derived.Deep.DeepMust
import Derived.Handy
namespace Go.Proofs.Ytjcfnfpilladfaa
open Go.RowKit
set_option linter.unusedVariables false
set_option linter.unusedSimpArgs false

theorem take_mem (xs : List Nat) (y k : Nat) (hk : k < xs.length) : decide (y ∈ xs.take (k + 1)) = (decide (y ∈ xs.take k) || decide (xs[k] = y)) := by
  have hm : y ∈ xs.take (k + 1) ↔ (y ∈ xs.take k ∨ xs[k] = y) := by
    rw [List.take_succ_eq_append_getElem hk, List.mem_append, List.mem_singleton]
    constructor
    · rintro (h | h)
      · exact .inl h
      · exact .inr h.symm
    · rintro (h | h)
      · exact .inl h
      · exact .inr h.symm
  rw [← Bool.decide_or]
  exact decide_eq_decide.2 hm
set_option maxHeartbeats 4000000 in
set_option maxRecDepth 100000 in
theorem opBackLaw_any (v : Value) (L : List Ov) (s : List UInt8) (w : World) (hL : OpsAt w v L) (hLw : ∀ e ∈ L, e.o.wf ∧ e.o.lens 140737488351232) (hs : s.length ≤ maxLen) :
    Calls Try.prog 12 #[v, .string ⟨s.toArray⟩] w fun e w' => e = .returned (.bool true) ∧ Below w.heap.size w w' := by
  have HH := Lib.hid (heavy11_any v L w hL (fun e he => (hLw e he).2))
  have AL := Lib.hid fun W => alive11_any W
  have aliveEnd := Lib.hid fun (W : World) (hW : Below w.heap.size w W) => (AL.out W).mono (R' := fun e w' => e = .returned (.bool true) ∧ Below w.heap.size w w') (fun e w' h => ⟨h.1, below_then hW h.2⟩)
  have HL := Lib.hid hL
  have HLW := Lib.hid hLw
  obtain ⟨hv, hhv⟩ : ∃ k, k = sizesN (L.map Ov.o) := ⟨_, rfl⟩
  rw [← hhv] at HH
  have HHV := Lib.hid hhv
  have hL2 := hL
  obtain ⟨VA, vcp, hvv, hv2, hv3, hv4, hv5⟩ := hL2
  obtain ⟨n, hn⟩ : ∃ k, k = L.length := ⟨_, rfl⟩
  rw [← hn] at hvv hv2
  subst hvv
  have HV4 := Lib.hid hv4
  have HN := Lib.hid hn
  clear hL hLw hhv hn hv4 hv5 AL
  have hz : (⟨s.toArray⟩ : ByteArray).size = s.length := by simp [ByteArray.size]
  unfold maxLen at hs hv3
  go_enter Try.func12, Try.ntmps12
  go_wp2_with fail
  refine (HH.out).mono ?_
  rintro e w1 ⟨rfl, hb⟩
  have B1 := Lib.hid hb
  clear hb HH
  by_cases h1 : 4096 < hv
  · rw [decide_eq_true h1]
    go_wp2_with fail
    refine (aliveEnd.out _ B1.out).mono ?_
    rintro e wa ⟨rfl, hba⟩
    have Ba := Lib.hid hba
    clear hba
    go_wp2_with fail
    go_ret
    exact ⟨rfl, Ba.out⟩
  rw [decide_eq_false h1]
  by_cases h2 : 4096 < s.length
  · have h2i : (4096 : Int) < (s.length : Int) := by omega
    go_wp2_with fail
    refine (aliveEnd.out _ B1.out).mono ?_
    rintro e wa ⟨rfl, hba⟩
    have Ba := Lib.hid hba
    clear hba
    go_wp2_with fail
    go_ret
    exact ⟨rfl, Ba.out⟩
  have h2i : ¬ (4096 : Int) < (s.length : Int) := by omega
  have hsm := sizes_mem (L := L) (by rw [← HHV.out]; omega)
  have hn4 : n ≤ 4096 := by rw [HN.out]; exact hsm.1
  have E1 := Lib.hid (opEncode_any (.slice VA n vcp) L w1 (HL.out.below B1.out) (fun e he => (HLW.out e he).1) (fun e he => small_of (hsm.2 e he)) (by rw [← HN.out]; omega))
  obtain ⟨EE, hEE⟩ : ∃ E, E = encL (L.map Ov.o) := ⟨_, rfl⟩
  rw [← hEE] at E1
  have HEE := Lib.hid hEE
  obtain ⟨eb, ee⟩ := EE
  simp only at E1
  clear hEE hsm h1 HHV
  go_wp2_with fail
  refine (E1.out).mono ?_
  rintro e w2 ⟨rfl, hb⟩
  have B2 := Lib.hid (below_then B1.out hb)
  clear hb E1 B1
  go_upto_if 34 with fail
  go_cut [8] (fun s8 w' => True ∧ Hid (Below w.heap.size w w'))
  case first =>
    by_cases hee : ee = 0
    · subst hee
      have r0 : ((0 : Int) == 0) = true := rfl
      have e0 : ((0 : Int) != 0) = false := rfl
      obtain ⟨hd, hlen⟩ := enc_back (l := L.map Ov.o) (x := eb) HEE.out.symm (fun o ho => by obtain ⟨e, he, rfl⟩ := List.mem_map.1 ho; exact (HLW.out e he).1)
      have F1 := Lib.hid (opDecode_any eb w2 (by omega))
      have hde : decE eb = 0 := by unfold decE; rw [hd]; rfl
      have HD := Lib.hid hd
      have HDE := Lib.hid hde
      clear hd hde hlen
      go_wp2_with fail
      refine (F1.out).mono ?_
      rintro e w3 ⟨v1, L1, rfl, ho1, hm1, hb1⟩
      rw [HDE.out]
      rw [HD.out, Option.getD_some] at hm1
      have B3 := Lib.hid (below_then B2.out hb1)
      have A1 := Lib.hid ho1.at_
      have AX := Lib.hid (all11_any v1 (.slice VA n vcp) L1 L w3 A1.out (HL.out.below B3.out))
      rw [decide_eq_true hm1] at AX
      have a1 := A1.out
      obtain ⟨V1, vc1, e1, a2, a3, a4, a5⟩ := a1
      obtain ⟨l1, hl1⟩ : ∃ k, k = L1.length := ⟨_, rfl⟩
      rw [← hl1] at e1
      subst e1
      clear hb1 ho1 hm1 F1 a2 a3 a4 a5 hl1
      go_wp2_with fail
      refine (AX.out).mono ?_
      rintro e w4 ⟨rfl, hb⟩
      have B4 := Lib.hid (below_then B3.out hb)
      clear hb
      go_wp2_with fail
      go_meet
      exact ⟨trivial, B4⟩
    · have r0 : (ee == 0) = false := by simp; omega
      clear hee
      go_wp2_with fail
      go_meet
      exact ⟨trivial, B2⟩
  case rest =>
  obtain ⟨_, B5⟩ := hcut
  generalize wc = w5 at *
  have PG := Lib.hid (opPages_any (.slice VA n vcp) L w5 (HL.out.below B5.out) (by rw [← HN.out]; omega))
  clear B2 HEE
  go_wp2_with fail
  refine (PG.out).mono ?_
  rintro e w6 ⟨v', ys, rfl, hN, hS, hM, hyl, hb⟩
  have B6 := Lib.hid (below_then B5.out hb)
  obtain ⟨PA, pcp, hpv, hp2, hp3, hp4, hp5⟩ := hN
  obtain ⟨yn, hyn⟩ : ∃ k, k = ys.length := ⟨_, rfl⟩
  rw [← hyn] at hpv hp2 hyl
  subst hpv
  have HP5 := Lib.hid hp5
  have HYN := Lib.hid hyn
  have HS := Lib.hid hS
  have HM := Lib.hid hM
  unfold maxLen at hp3
  clear PG hb hp4 hp5 hyn hS hM B5
  have B60 := Lib.hid (Below.refl w6.heap.size w6)
  go_wp2_with fail
  go_loopw [10] (fun s10 wr => ∃ i : Nat, s10 = .int .i64 i ∧ i ≤ yn ∧ Hid (Below w6.heap.size w6 wr)) (fun v _ => yn - (intOf v).toNat)
  case atStart => exact ⟨0, rfl, Nat.zero_le _, B60⟩
  case round =>
    clear B60
    obtain ⟨i, rfl, hi, HB⟩ := hrel
    by_cases hc : i < yn
    · have hci : (i : Int) < (yn : Int) := by omega
      have q1 : (0 : Int) ≤ (i : Int) := by omega
      have hil : i < ys.length := by rw [← HYN.out]; exact hc
      obtain ⟨pb, po, rfl, hpb, hpc⟩ := HP5.out (by rw [← HYN.out]; omega)
      have hyc := hpc i hil
      have hym : ys[i] ∈ L.map (fun e => e.o.page) := (HM.out _).1 (List.getElem_mem hil)
      have hpr : Hid (∀ j, i = j + 1 → ∃ y', y' < ys[i] ∧ w6.cell? ⟨pb, po + j, none⟩ = some (.int .u32 ((y' : Nat) : Int))) := Lib.hid fun j hj => ⟨ys[j]'(by omega), List.pairwise_iff_getElem.1 HS.out j i (by omega) hil (by omega), hpc j (by omega)⟩
      clear hpc
      generalize ys[i] = y at *
      have HYC := Lib.hid hyc
      have HYM := Lib.hid hym
      have HPB := Lib.hid hpb
      have BI0 := HB
      clear hyc hym
      go_wp2_with fail
      go_loopw [11, 12] (fun s11 s12 wv => ∃ (k : Nat) (bb : Bool), s12 = .int .i64 k ∧ k ≤ n ∧ s11 = .bool bb ∧ Hid (bb = decide (y ∈ (L.map (fun e => e.o.page)).take k)) ∧ Hid (Below w6.heap.size w6 wv)) (fun _ v _ => n - (intOf v).toNat)
      case atStart => exact ⟨0, false, rfl, Nat.zero_le _, rfl, Lib.hid (by simp), BI0⟩
      case round =>
        obtain ⟨k, bb, rfl, hk, rfl, HBB, HBI⟩ := hrel
        clear BI0 HB
        have yc : wr.cell? ⟨pb, po + i, none⟩ = some (.int .u32 y) := keep_cell HBI.out HYC.out
        by_cases hc2 : k < n
        · have hci2 : (k : Int) < (n : Int) := by omega
          have q2 : (0 : Int) ≤ (k : Int) := by omega
          have hkl : k < L.length := by rw [← HN.out]; exact hc2
          obtain ⟨b0, o0, rfl, hb0, hcell⟩ := HV4.out (by rw [← HN.out]; omega)
          have hx := hcell k hkl 1 _ rfl
          have htm := take_mem (L.map (fun e => e.o.page)) y k (by simpa using hkl)
          rw [List.getElem_map, ← HBB.out] at htm
          have x1 : wr.cell? ⟨b0, o0 + k * 9 + 1, none⟩ = some (.int .u32 (L[k].o.page : Int)) := keep_cell HBI.out ((B6.out.cell (p := ⟨b0, o0 + k * 9 + 1, none⟩) hb0).trans hx)
          generalize L[k].o.page = pg at *
          obtain ⟨pe, hpe⟩ : ∃ b, b = decide (pg = y) := ⟨_, rfl⟩
          have pei : ((pg : Int) == (y : Int)) = pe := by
            rw [hpe]
            by_cases h : pg = y
            · subst h; simp
            · rw [decide_eq_false h]; simp; omega
          rw [← hpe] at htm
          have HTM := Lib.hid htm
          clear hcell hx hpe htm
          cases bb with
          | true =>
            clear x1 yc
            go_upto_region 16 with fail
            refine wp_region_ext wr.heap.size (by kernel_rfl) (by kernel_rfl) ?_
            repeat (go_big_quiet_step (fail))
            refine wpQuiet_nil ?_
            rintro _ ⟨X, rfl⟩
            have hcur := Lib.hid (HBI.out.trans (X.below.mono HBI.out.size))
            generalize X.val = w9x at *
            go_wp2_with fail
            go_roundw
            case rel => exact ⟨k + 1, true, by go_num, by omega, rfl, Lib.hid (by rw [HTM.out]; rfl), hcur⟩
            case measure => simp [intOf] <;> omega
          | false =>
            go_upto_region 16 with fail
            have ef0 := ext_cell x1 (cell_lt x1)
            have ef1 := ext_cell yc (cell_lt yc)
            refine wp_region_ext wr.heap.size (by kernel_rfl) (by kernel_rfl) ?_
            repeat (go_big_quiet_step (fail))
            refine wpQuiet_nil ?_
            rintro _ ⟨X, rfl⟩
            have hcur := Lib.hid (HBI.out.trans (X.below.mono HBI.out.size))
            generalize X.val = w9x at *
            clear ef0 ef1 x1 yc
            go_wp2_with fail
            go_roundw
            case rel => exact ⟨k + 1, pe, by go_num, by omega, rfl, Lib.hid (by rw [HTM.out]; rfl), hcur⟩
            case measure => simp [intOf] <;> omega
        · have hci2 : ¬ (k : Int) < (n : Int) := by omega
          have hbt : bb = true := by
            rw [HBB.out, List.take_of_length_le (by rw [List.length_map, ← HN.out]; omega)]
            exact decide_eq_true HYM.out
          subst hbt
          cases i with
          | zero =>
            clear yc
            go_upto_region 17 with fail
            refine wp_region_ext wr.heap.size (by kernel_rfl) (by kernel_rfl) ?_
            repeat (go_big_quiet_step (fail))
            refine wpQuiet_nil ?_
            rintro _ ⟨X, rfl⟩
            have hcur := Lib.hid (HBI.out.trans (X.below.mono HBI.out.size))
            generalize X.val = w9x at *
            go_wp2_with fail
            go_roundw
            case rel => exact ⟨1, by go_num, by omega, hcur⟩
            case measure => simp [intOf] <;> omega
          | succ j =>
            obtain ⟨y', hlt, hyc'⟩ := hpr.out j rfl
            have yc' : wr.cell? ⟨pb, po + j, none⟩ = some (.int .u32 y') := keep_cell HBI.out hyc'
            have hle : ¬ (y : Int) ≤ (y' : Int) := by omega
            have hj0 : (0 : Int) < (j : Int) + 1 := by omega
            have hj0d : decide ((0 : Int) < (j : Int) + 1) = true := decide_eq_true (by omega)
            have hled : decide ((y : Int) ≤ (y' : Int)) = false := decide_eq_false (by omega)
            have hj1 : (0 : Int) ≤ (j : Int) := by omega
            have hj2 : (j : Int) < (yn : Int) := by omega
            have hj3 : (j : Int) + 1 < (yn : Int) := by omega
            clear hyc'
            go_upto_region 17 with fail
            have ef0 := ext_cell yc (cell_lt yc)
            have ef1 := ext_cell yc' (cell_lt yc')
            refine wp_region_ext wr.heap.size (by kernel_rfl) (by kernel_rfl) ?_
            repeat (go_big_quiet_step (fail))
            refine wpQuiet_nil ?_
            rintro _ ⟨X, rfl⟩
            have hcur := Lib.hid (HBI.out.trans (X.below.mono HBI.out.size))
            generalize X.val = w9x at *
            clear ef0 ef1 yc yc'
            go_wp2_with fail
            go_roundw
            case rel => exact ⟨j + 1 + 1, by go_num, by omega, hcur⟩
            case measure => simp [intOf] <;> omega
    · have hci : ¬ (i : Int) < (yn : Int) := by omega
      have BC0 := HB
      go_wp2_with fail
      go_loopw [13] (fun s13 wv => ∃ k : Nat, s13 = .int .i64 k ∧ k ≤ n ∧ Hid (Below w6.heap.size w6 wv)) (fun v _ => n - (intOf v).toNat)
      case atStart => exact ⟨0, rfl, Nat.zero_le _, BC0⟩
      case round =>
        obtain ⟨k, rfl, hk, HC⟩ := hrel
        clear BC0 HB
        by_cases hc2 : k < n
        · have hci2 : (k : Int) < (n : Int) := by omega
          have q2 : (0 : Int) ≤ (k : Int) := by omega
          have hkl : k < L.length := by rw [← HN.out]; exact hc2
          obtain ⟨b0, o0, rfl, hb0, hcell⟩ := HV4.out (by rw [← HN.out]; omega)
          have hx := (B6.out.cell (p := ⟨b0, o0 + k * 9 + 1, none⟩) hb0).trans (hcell k hkl 1 _ rfl)
          have hpm : L[k].o.page ∈ ys := (HM.out _).2 (List.mem_map.2 ⟨L[k], List.getElem_mem hkl, rfl⟩)
          generalize L[k].o.page = pg at *
          have HX := Lib.hid hx
          have HPM := Lib.hid hpm
          have BD0 := HC
          clear hcell hx hpm
          go_wp2_with fail
          go_loopw [14, 15] (fun s14 s15 wv => ∃ (j : Nat) (bb : Bool), s15 = .int .i64 j ∧ j ≤ yn ∧ s14 = .bool bb ∧ Hid (bb = decide (pg ∈ ys.take j)) ∧ Hid (Below w6.heap.size w6 wv)) (fun _ v _ => yn - (intOf v).toNat)
          case atStart => exact ⟨0, false, rfl, Nat.zero_le _, rfl, Lib.hid (by simp), BD0⟩
          case round =>
            obtain ⟨j, bb, rfl, hj, rfl, HBB, HBI⟩ := hrel
            clear BD0 HC
            by_cases hc3 : j < yn
            · have hci3 : (j : Int) < (yn : Int) := by omega
              have q3 : (0 : Int) ≤ (j : Int) := by omega
              have hjl : j < ys.length := by rw [← HYN.out]; exact hc3
              obtain ⟨pb, po, rfl, hpb, hpc⟩ := HP5.out (by rw [← HYN.out]; omega)
              have htm := take_mem ys pg j hjl
              rw [← HBB.out] at htm
              have yc := keep_cell HBI.out (hpc j hjl)
              have x1 := keep_cell HBI.out HX.out
              generalize ys[j] = y at *
              obtain ⟨pe, hpe⟩ : ∃ b, b = decide (y = pg) := ⟨_, rfl⟩
              have pei : ((pg : Int) == (y : Int)) = pe := by
                rw [hpe]
                by_cases h : y = pg
                · subst h; simp
                · rw [decide_eq_false h]; simp; omega
              rw [← hpe] at htm
              have HTM := Lib.hid htm
              clear hpc hpe htm
              cases bb with
              | true =>
                clear x1 yc
                go_upto_region 26 with fail
                refine wp_region_ext wr.heap.size (by kernel_rfl) (by kernel_rfl) ?_
                repeat (go_big_quiet_step (fail))
                refine wpQuiet_nil ?_
                rintro _ ⟨X, rfl⟩
                have hcur := Lib.hid (HBI.out.trans (X.below.mono HBI.out.size))
                generalize X.val = w9x at *
                go_wp2_with fail
                go_roundw
                case rel => exact ⟨j + 1, true, by go_num, by omega, rfl, Lib.hid (by rw [HTM.out]; rfl), hcur⟩
                case measure => simp [intOf] <;> omega
              | false =>
                go_upto_region 26 with fail
                have ef0 := ext_cell x1 (cell_lt x1)
                have ef1 := ext_cell yc (cell_lt yc)
                refine wp_region_ext wr.heap.size (by kernel_rfl) (by kernel_rfl) ?_
                repeat (go_big_quiet_step (fail))
                refine wpQuiet_nil ?_
                rintro _ ⟨X, rfl⟩
                have hcur := Lib.hid (HBI.out.trans (X.below.mono HBI.out.size))
                generalize X.val = w9x at *
                clear ef0 ef1 x1 yc
                go_wp2_with fail
                go_roundw
                case rel => exact ⟨j + 1, pe, by go_num, by omega, rfl, Lib.hid (by rw [HTM.out]; rfl), hcur⟩
                case measure => simp [intOf] <;> omega
            · have hci3 : ¬ (j : Int) < (yn : Int) := by omega
              have hbt : bb = true := by
                rw [HBB.out, List.take_of_length_le (by rw [← HYN.out]; omega)]
                exact decide_eq_true HPM.out
              subst hbt
              go_wp2_with fail
              go_roundw
              case rel => exact ⟨k + 1, by go_num, by omega, HBI⟩
              case measure => simp [intOf] <;> omega
        · have hci2 : ¬ (k : Int) < (n : Int) := by omega
          have B7 := Lib.hid (below_then B6.out HC.out)
          have F1 := Lib.hid (opDecode_any s wr (by omega))
          clear HC B6 HP5 HM HS HYN
          go_wp2_with fail
          refine (F1.out).mono ?_
          rintro e w8 ⟨v1, L1, rfl, ho1, hm1, hb1⟩
          have B8 := Lib.hid (below_then B7.out hb1)
          have A1 := Lib.hid ho1.at_
          have a1 := A1.out
          obtain ⟨V1, vc1, e1, a2, a3, a4, a5⟩ := a1
          obtain ⟨l1, hl1⟩ : ∃ k, k = L1.length := ⟨_, rfl⟩
          rw [← hl1] at e1
          have HL1 := Lib.hid hl1
          subst e1
          cases hd : decL s with
          | none =>
            have hde : decE s = 7 := by unfold decE; rw [hd]; rfl
            have h0 : L1 = [] := by
              rw [hd, Option.getD_none] at hm1
              exact List.map_eq_nil_iff.1 hm1
            have h00 : l1 = 0 := by rw [HL1.out, h0]; rfl
            subst h00
            rw [hde]
            have r7 : ((7 : Int) != 0) = true := rfl
            have r0 : (((0 : Nat) : Int) == 0) = true := rfl
            clear hd hde h0 hm1 hb1 ho1 F1 a2 a3 a4 a5 hl1 B7
            go_wp2_with fail
            refine (aliveEnd.out _ B8.out).mono ?_
            rintro e wa ⟨rfl, hba⟩
            have Ba := Lib.hid hba
            clear hba
            go_wp2_with fail
            go_ret
            exact ⟨rfl, Ba.out⟩
          | some l =>
            have hde : decE s = 0 := by unfold decE; rw [hd]; rfl
            rw [hd, Option.getD_some] at hm1
            obtain ⟨j1, j2, j3⟩ := dec_back hd
            have hl32 : L1.length ≤ 32 := by
              have : L1.length = l.length := by rw [← hm1, List.length_map]
              omega
            rw [← hm1] at j1 j3
            have E2 := Lib.hid (opEncode_any (.slice V1 l1 vc1) L1 w8 A1.out (fun e he => (j3 _ (List.mem_map.2 ⟨e, he, rfl⟩)).1) (fun e he => (j3 _ (List.mem_map.2 ⟨e, he, rfl⟩)).2) (by omega))
            rw [j1] at E2
            simp only at E2
            rw [hde]
            have e0 : ((0 : Int) != 0) = false := rfl
            have r0 : ((0 : Int) == 0) = true := rfl
            have d2 : ((⟨s.toArray⟩ : ByteArray).toList == (⟨s.toArray⟩ : ByteArray).toList) = true := by simp
            clear hd hde hm1 hb1 ho1 F1 a2 a3 a4 a5 hl1 j1 j3 hl32 B7 j2
            go_wp2_with fail
            refine (E2.out).mono ?_
            rintro e w9 ⟨rfl, hb⟩
            have B9 := Lib.hid (below_then B8.out hb)
            clear hb E2
            go_wp2_with fail
            refine (aliveEnd.out _ B9.out).mono ?_
            rintro e wa ⟨rfl, hba⟩
            have Ba := Lib.hid hba
            clear hba
            go_wp2_with fail
            go_ret
            exact ⟨rfl, Ba.out⟩

end Go.Proofs.Ytjcfnfpilladfaa
