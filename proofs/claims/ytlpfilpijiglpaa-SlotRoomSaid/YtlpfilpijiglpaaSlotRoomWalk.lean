/- SlotRoom: the walk -/
import Derived.Test.YtlpfilpijiglpaaRows
import Derived.Test.YtlpfilpijiglpaaSlotCalls
import Derived.Test.YtlpfilpijiglpaaMakeZeros
import Derived.Deep.RegionWith
import Derived.WalkKit
import Derived.WalkLawsBesides
import Derived.WalkSpells
import Derived.LoopTactic
import Derived.WalkMore
import Derived.LoopN
import Derived.Laws.BitsAllLaws
import Derived.Laws.IdiomStrings
import Derived.BigQuiet
import Derived.Deep.QuietTactic
import Derived.Deep.DeepCutAuto
import Derived.Deep.RegionHeld3
import Derived.Deep.DrawnRows
import Derived.Lib.Hide
import Derived.Outline
import Derived.Deep.DeepMust
import Derived.Handy
namespace Go.Proofs.Ytlpfilpijiglpaa
open Go.RowKit
set_option linter.unusedVariables false
set_option linter.unusedSimpArgs false

set_option maxHeartbeats 4000000 in
set_option maxRecDepth 100000 in
theorem slotRoom_walk (size : Nat) (a : Option Addr) (b o len cap : Nat) (L : List Pc) (at_ : Nat) (more : Int) (set : Bool) (w : World) (hsz : size < 256 ^ 2) (hat : at_ < 256) (hmo : -128 ≤ more ∧ more ≤ 127) (hL : CallsAt w a b o len L) :
    Calls Try.prog 3 #[.int .u16 size, .slice a len cap, .int .u8 at_, .int .i8 more, .bool set] w fun e w' => e = .returned (.bool true) ∧ Below w.heap.size w w' := by
  have AL := Lib.hid fun W => alive_any W
  simp only [Nat.reducePow] at hsz
  by_cases hh : bulk L ≤ 8192 ∧ len ≤ 100
  case neg =>
    have HV := Lib.hid (heavy_yes a b o len cap L w hL hh)
    clear hL hh
    go_enter Try.func3, Try.ntmps3
    go_wp2_with fail
    refine HV.out.mono ?_
    rintro e w1 ⟨rfl, rfl⟩
    go_wp2_with fail
    refine (AL.out _).mono ?_
    rintro e w1 ⟨rfl, h⟩
    go_wp2_with fail
    go_ret
    exact ⟨rfl, h⟩
  have HV := Lib.hid (heavy_no a b o len cap L w hL hh.1 hh.2)
  obtain ⟨all, hall⟩ : ∃ x, x = 16 + size % 600 := ⟨_, rfl⟩
  have ha1 : 16 ≤ all := by omega
  have ha2 : all ≤ 615 := by omega
  have hrem : IntKind.i64.wrap ((size : Int).tmod 600) = ((size % 600 : Nat) : Int) := by
    rw [Int.tmod_eq_emod_of_nonneg (by omega)]
    rw [show (size : Int) % 600 = ((size % 600 : Nat) : Int) by omega]
    exact IntWalk.i64_in _ ⟨by omega, by omega⟩
  have hadd : IntKind.i64.wrap (16 + ((size % 600 : Nat) : Int)) = (all : Int) := by rw [hall, show ((16 + size % 600 : Nat) : Int) = 16 + ((size % 600 : Nat) : Int) by omega]; exact IntWalk.i64_in _ ⟨by omega, by omega⟩
  have NE := Lib.hid (newA all w (by omega) (by omega))
  have HL := Lib.hid hL
  have HH := Lib.hid hh
  clear hL hh
  go_enter Try.func3, Try.ntmps3
  go_wp2_with fail
  refine HV.out.mono ?_
  rintro e w1 ⟨rfl, rfl⟩
  go_wp2_with fail
  have he : (16 + (size : Int) % 600) = (all : Int) := by omega
  rw [he]
  have Hall := Lib.hid hall
  clear he hall hrem hadd hsz
  refine NE.out.mono ?_
  rintro e w1 ⟨gA, gB, rfl, hA, hB, ha, hb⟩
  have HA1 := Lib.hid ha
  have HB1 := Lib.hid hb
  clear ha hb NE HV
  go_wp2_with fail
  go_loopw [14] (fun s14 wr => ∃ i : Nat, i ≤ len ∧ s14 = .int .i64 i ∧ ∃ ar : Ar, ar.Good ∧ ar.B.length = all ∧ ArAt wr gA gB all ar ∧ Below w.heap.size w wr) (fun i _ => len - (intOf i).toNat)
  case atStart => exact ⟨0, Nat.zero_le _, rfl, Ar.new all, Ar.Good.new ha1 (by omega), by simp [Ar.new], HA1.out, HB1.out⟩
  case round =>
    obtain ⟨i, hi, rfl, ar, hg, harB, ha, hb⟩ := hrel
    have HA := Lib.hid ha
    have HB := Lib.hid hb
    have HG := Lib.hid hg
    have HArB := Lib.hid harB
    clear ha hb HA1 HB1 hg harB
    have hlen := HH.out.2
    by_cases hc : i < len
    · obtain ⟨rfl, hlt⟩ := HL.out.at_ (by omega)
      have hiL : i < L.length := by rw [HL.out.n]; exact hc
      obtain ⟨c0, c1, c2⟩ := (HL.out.below HB.out).cell i hiL
      have hbs : L[i].2.2.size ≤ 100000 := by have h1 := bulk_mem (List.getElem_mem hiL); have h2 := HH.out.1; omega
      have hdo := (HL.out.ok _ (List.getElem_mem hiL)).1
      have hcs : ∀ W, Below w.heap.size w W → W.cell? ⟨b, o + i * 3, none⟩ = some (.int .u8 (L[i].1 : Nat)) ∧ W.cell? ⟨b, o + i * 3 + 1, none⟩ = some (.int .i64 L[i].2.1) := fun W hW => ⟨((HL.out.below hW).cell i hiL).1, ((HL.out.below hW).cell i hiL).2.1⟩
      have q0 : (0 : Int) ≤ (i : Int) := by omega
      have q1 : (i : Int) < (len : Int) := by omega
      generalize L[i].2.2 = T at *
      generalize L[i].2.1 = At at *
      generalize L[i].1 = D at *
      have HCS := Lib.hid hcs
      clear c0 c1 hcs
      have PU := Lib.hid (putA gA gB all (0 : Nat) ar T wr HG.out hbs HA.out)
      have hp := HG.out.put (0 : Nat) T.data.toList
      generalize hpa : ar.put (0 : Nat) T.data.toList = pa at *
      have HP := Lib.hid hp
      clear hp hpa
      go_wp2_with fail
      refine PU.out.mono ?_
      rintro e w2 ⟨rfl, ha2, hg2⟩
      have HA2 := Lib.hid ha2
      have HB2 := Lib.hid (below_grown HB.out hg2 hB)
      clear ha2 hg2
      obtain ⟨d0, d1⟩ := HCS.out _ HB2.out
      by_cases hd : D % 3 = 0
      · have hd' : ((D : Int) % 3 == 0) = true := by simp; omega
        have RM := Lib.hid (removeA gA gB all At pa.1 w2 HP.out.1 HA2.out)
        have hr := HP.out.1.remove At
        generalize pa.1.remove At = ra at *
        have HR := Lib.hid hr
        clear hr
        go_wp2_with fail
        refine RM.out.mono ?_
        rintro e w3 ⟨rfl, ha3, hg3⟩
        have HA3 := Lib.hid ha3
        have HB3 := Lib.hid (below_grown HB2.out hg3 hB)
        clear ha3 hg3
        go_wp2_with fail
        go_roundw
        case rel => exact ⟨i + 1, by omega, by go_num, _, HR.out.1, by rw [HR.out.2, HP.out.2, HArB.out], HA3.out, HB3.out⟩
        case measure => simp [intOf]; omega
      · have hd' : ((D : Int) % 3 == 0) = false := by simp; omega
        go_wp2_with fail
        go_roundw
        case rel => exact ⟨i + 1, by omega, by go_num, _, HP.out.1, by rw [HP.out.2, HArB.out], HA2.out, HB2.out⟩
        case measure => simp [intOf]; omega
    obtain rfl : i = len := by omega
    clear hc hi hlen HL HH
    have hf := HG.out.fit
    have hn := hf.n
    have hft := HG.out.free_texts
    have htl : ar.texts.length = ar.L.length := by simp [Ar.texts]
    rw [HArB.out, htl] at hft
    have LN := Lib.hid fun W hW => lenA gA gB all ar W hf hW
    have GE := Lib.hid fun k (hk : k < ar.L.length) W (hW : ArAt W gA gB all ar) => getA_yes gA gB all k ar W HG.out hk hW
    have FR := Lib.hid fun W hW => freeA gA gB all ar W HG.out hW
    have GP := Lib.hid fun W hW => gapA gA gB all ar W hf hW
    have SU := Lib.hid fun k (hk : k < ar.texts.length) => take_sum ar.texts k hk
    have SL := Lib.hid fun k => sum_take_le ar.texts k
    have ST : Hid (((ar.texts.take ar.L.length).map List.length).sum = (ar.texts.map List.length).sum) := by show _ = _; rw [List.take_of_length_le (by omega)]
    have GL : Hid (∀ k (hk : k < ar.L.length), (⟨(ar.text ar.L[k]).toArray⟩ : ByteArray).size = (ar.texts.getD k []).length) := by
      show ∀ k (hk : k < ar.L.length), _
      intro k hk
      have : ar.texts.getD k [] = ar.text ar.L[k] := by simp [Ar.texts, List.getD_eq_getElem?_getD, hk]
      rw [this]
      exact List.size_toArray
    obtain ⟨tl, htl'⟩ : ∃ tl : Nat → Nat, ∀ k, tl k = ((ar.texts.take k).map List.length).sum := ⟨_, fun k => rfl⟩
    have hft1 := hft.1
    have hft2 := hft.2.1
    have hft3 := hft.2.2
    have tlE : ((ar.texts.map List.length).sum : Nat) = tl ar.L.length := by rw [htl', ST.out]
    rw [tlE] at hft1
    have TS := Lib.hid fun k (hk : k < ar.L.length) => (show tl (k + 1) = tl k + (ar.texts.getD k []).length by rw [htl', htl']; exact SU.out k (by omega))
    have TL := Lib.hid fun k => (show tl k ≤ tl ar.L.length by rw [← tlE, htl']; exact SL.out k)
    have tl0 : tl 0 = 0 := by rw [htl']; rfl
    have hft4 : ar.free ≤ 615 := by omega
    have FT := Lib.hid hft1
    have HTL0 := Lib.hid tl0
    clear SU SL ST hft hft1 htl htl' tlE tl0
    have w1' : IntKind.i64.wrap ((all : Int) - 4) = (all : Int) - 4 := IntWalk.i64_in _ ⟨by omega, by omega⟩
    go_wp2_with fail
    go_loopw [15, 16] (fun s15 s16 wr2 => ∃ k : Nat, k ≤ ar.L.length ∧ s16 = .int .i64 k ∧ s15 = .int .i64 ((all : Int) - 4 - 4 * (k : Int) - (tl k : Int)) ∧ ArAt wr2 gA gB all ar ∧ Below w.heap.size w wr2) (fun _ i _ => ar.L.length - (intOf i).toNat)
    case atStart => exact ⟨0, Nat.zero_le _, rfl, by rw [HTL0.out]; simp, HA.out, HB.out⟩
    case round =>
      obtain ⟨k, hk, rfl, rfl, ha, hb⟩ := hrel
      have HA4 := Lib.hid ha
      have HB4 := Lib.hid hb
      clear ha hb HA HB
      have tk := TL.out k
      have tn := FT.out
      go_wp2_with fail
      refine (LN.out _ HA4.out).mono ?_
      rintro e w4 ⟨rfl, h4⟩
      have HA5 := Lib.hid (HA4.out.below h4)
      have HB5 := Lib.hid (below_then HB4.out h4)
      clear h4 HA4 HB4
      by_cases hc : k < ar.L.length
      · have G := Lib.hid (GE.out k hc)
        have GL1 := GL.out k hc
        have TS1 := TS.out k hc
        have TL1 := TL.out (k + 1)
        generalize (⟨(ar.text ar.L[k]).toArray⟩ : ByteArray) = X at *
        have hX : tl (k + 1) = tl k + X.size := by omega
        have HX := Lib.hid hX
        obtain ⟨N, hN⟩ : ∃ N : Int, N = (all : Int) - 4 - 4 * (k : Int) - (tl k : Int) := ⟨_, rfl⟩
        rw [← hN]
        have hN1 : IntKind.i64.wrap (N - 4) = N - 4 := IntWalk.i64_in _ ⟨by omega, by omega⟩
        have hN2 : IntKind.i64.wrap (N - 4 - (X.size : Int)) = N - 4 - (X.size : Int) := IntWalk.i64_in _ ⟨by omega, by omega⟩
        have hN3 : Hid (N - 4 - (X.size : Int) = (all : Int) - 4 - 4 * ((k + 1 : Nat) : Int) - (tl (k + 1) : Int)) := by show _ = _; rw [hX, hN]; omega
        clear GL1 TS1 TL1 hX hN tk tn
        go_wp2_with fail
        refine (G.out _ HA5.out).mono ?_
        rintro e w5 ⟨rfl, h5⟩
        have HA6 := Lib.hid (HA5.out.below h5)
        have HB6 := Lib.hid (below_then HB5.out h5)
        clear h5
        go_wp2_with fail
        go_roundw
        case rel => exact ⟨k + 1, by omega, by go_num, by rw [hN3.out], HA6.out, HB6.out⟩
        case measure => simp [intOf]; omega
      obtain rfl : k = ar.L.length := by omega
      have hfr : ((all : Int) - 4 - 4 * (ar.L.length : Int) - (tl ar.L.length : Int)) = ar.free := by omega
      rw [hfr]
      clear hfr tk tn TS TL FT HTL0 GL
      have f1 : decide (ar.free < ar.gap) = false := by simp; omega
      have f2 : decide (ar.free < 0) = false := by simp; omega
      go_wp2_with fail
      refine (FR.out _ HA5.out).mono ?_
      rintro e w5 ⟨rfl, h5⟩
      have HA6 := Lib.hid (HA5.out.below h5)
      have HB6 := Lib.hid (below_then HB5.out h5)
      clear h5 HA5 HB5
      go_wp2_with fail
      refine (GP.out _ HA6.out).mono ?_
      rintro e w6 ⟨rfl, h6⟩
      have HA7 := Lib.hid (HA6.out.below h6)
      have HB7 := Lib.hid (below_then HB6.out h6)
      clear h6 HA6 HB6
      cases set with
      | false =>
        have HA8 := HA7
        have HB8 := HB7
        obtain ⟨w7, rfl⟩ : ∃ W, W = w6 := ⟨_, rfl⟩
        have v1 : IntKind.i64.wrap (ar.free - 4) = ar.free - 4 := IntWalk.i64_in _ ⟨by omega, by omega⟩
        have v2 : IntKind.i64.wrap more = more := IntWalk.i64_in _ ⟨by omega, by omega⟩
        have v3 : IntKind.i64.wrap (ar.free - 4 + more) = ar.free - 4 + more := IntWalk.i64_in _ ⟨by omega, by omega⟩
        by_cases hm : ar.free - 4 + more < 0
        · by_cases h4 : 4 ≤ ar.free
          · have p1 : decide (4 ≤ ar.free) = true := by simp; omega
            have p2 : decide (ar.free - 4 + more < 0) = true := by simp; omega
            go_wp2_with fail
            refine (AL.out _).mono ?_
            rintro e w8 ⟨rfl, h8⟩
            have HB9 := Lib.hid (below_then HB8.out h8)
            clear h8
            go_wp2_with fail
            go_ret
            exact ⟨rfl, HB9.out⟩
          · have p1 : decide (4 ≤ ar.free) = false := by simp; omega
            have p2 : decide (ar.free - 4 + more < 0) = true := by simp; omega
            have PU0 := putA gA gB all (0 : Nat) ar ⟨#[]⟩ w7 HG.out (by decide) HA8.out
            have hpz : (ar.put (0 : Nat) (⟨#[]⟩ : ByteArray).data.toList).2 = 4 := by
              unfold Ar.put
              rw [if_neg (by omega), if_pos (by show ar.free < (0 : Nat) + 4; omega)]
            rw [hpz] at PU0
            have PU := Lib.hid PU0
            clear PU0 hpz
            go_wp2_with fail
            refine PU.out.mono ?_
            rintro e w8 ⟨rfl, ha8, hg8⟩
            have HB9 := Lib.hid (below_grown HB8.out hg8 hB)
            clear ha8 hg8
            go_wp2_with fail
            refine (AL.out _).mono ?_
            rintro e w9 ⟨rfl, h9⟩
            have HB10 := Lib.hid (below_then HB9.out h9)
            clear h9
            go_wp2_with fail
            go_ret
            exact ⟨rfl, HB10.out⟩
        · obtain ⟨m, hm'⟩ := Int.eq_ofNat_of_zero_le (Int.not_lt.1 hm)
          rw [hm'] at v3
          have hmr : m ≤ 2000 := by omega
          have hZs : (⟨(List.replicate m 0).toArray⟩ : ByteArray).data.toList = List.replicate m (0 : UInt8) := rfl
          have hput : (ar.put ((at_ % (ar.L.length + 1) : Nat) : Int) (List.replicate m (0 : UInt8))).2 = if more ≤ 0 then 0 else 4 := by
            have hlt : at_ % (ar.L.length + 1) < ar.L.length + 1 := Nat.mod_lt _ (Nat.succ_pos _)
            unfold Ar.put
            rw [if_neg (by omega), List.length_replicate]
            by_cases hmo0 : more ≤ 0
            · rw [if_neg (by omega), if_pos hmo0]
            · rw [if_pos (by omega), if_neg hmo0]
          obtain ⟨r, hr⟩ : ∃ r, r = at_ % (ar.L.length + 1) := ⟨_, rfl⟩
          have hrle : r ≤ at_ := by rw [hr]; exact Nat.mod_le _ _
          have r0 : ((at_ : Int) % ((ar.L.length : Int) + 1)) = (r : Int) := by rw [hr]; simp
          have r1 : ((at_ : Int)).tmod ((ar.L.length : Int) + 1) = (r : Int) := by rw [Int.tmod_eq_emod_of_nonneg (by omega)]; exact r0
          have r2 : IntKind.i64.wrap (r : Int) = r := IntWalk.i64_in _ ⟨by omega, by omega⟩
          have r3 : ¬ ((ar.L.length : Int) + 1) = 0 := by omega
          have r4 : IntKind.i64.wrap (at_ : Int) = at_ := IntWalk.i64_in _ ⟨by omega, by omega⟩
          have r5 : IntKind.i64.wrap ((ar.L.length : Int) + 1) = (ar.L.length : Int) + 1 := IntWalk.i64_in _ ⟨by omega, by omega⟩
          rw [← hr] at hput
          have hsz100 : (⟨(List.replicate m (0 : UInt8)).toArray⟩ : ByteArray).size ≤ 100000 := by show (List.replicate m (0 : UInt8)).toArray.size ≤ 100000; simp; omega
          have PU0 := fun W hW => putA gA gB all (r : Nat) ar ⟨(List.replicate m 0).toArray⟩ W HG.out hsz100 hW
          have hmk := fun (W : World) => run_make_zeros (P := Try.prog) W 38 5 m Try.underlying38 (by kernel_rfl) (by kernel_rfl) (by kernel_rfl) (by omega)
          have hcv0 := fun (W : World) (g : Nat) h => run_zeros_str (P := Try.prog) W 38 5 9 g m Try.underlying38 Try.underlying5 Try.underlying9 h
          have hcv : ∀ W : World, (convert 38 9 (.slice (some ⟨W.heap.size, 0, none⟩) m m)).run Try.prog (W.alloc (.cells (zerosRow m) 5)) = .ok (.string ⟨(List.replicate m 0).toArray⟩) (W.alloc (.cells (zerosRow m) 5)) := fun W => hcv0 _ _ (heap_alloc_new W _)
          have hcv2 : ∀ W : World, (convert 38 9 (.slice (some ⟨W.heap.size, 0, none⟩) m m)).run Try.prog (W.alloc (.cells (zerosRow m) 5)).drew = .ok (.string ⟨(List.replicate m 0).toArray⟩) (W.alloc (.cells (zerosRow m) 5)).drew := fun W => hcv0 _ _ (heap_alloc_new W _)
          rw [hZs, hput] at PU0
          generalize (⟨(List.replicate m (0 : UInt8)).toArray⟩ : ByteArray) = Z at *
          generalize zerosRow m = CS at *
          generalize (ar.put (r : Int) (List.replicate m (0 : UInt8))).1 = ar2 at *
          have HCV0 := Lib.hid hcv0
          clear hr hcv0 hput hZs hsz100
          obtain ⟨f, hf0⟩ : ∃ f : Int, f = if more ≤ 0 then 0 else 4 := ⟨_, rfl⟩
          rw [← hf0] at PU0
          have HF := Lib.hid hf0
          have PU := Lib.hid PU0
          clear PU0 hf0
          go_wp2_with fail
          go_region_with (first
            | (go_at_call 18; refine (LN.out _ (HA8.out.below (by first | exact (Below.refl _ _).drew | exact below_alloc (Below.refl _ _).drew _))).mono ?_; rintro e w9 ⟨rfl, h9⟩; try (have hcw := HCV0.out w9 w7.heap.size ((h9.block _ (by simp)).trans (heap_alloc_new _ _))))
            | (go_at_call 16; refine (PU.out _ (HA8.out.below (by first | exact below_alloc (below_then (Below.refl _ _).drew h9) _ | exact below_then (below_alloc (Below.refl _ _).drew _) h9))).mono ?_; rintro e w10 ⟨rfl, ha10, hg10⟩))
          all_goals
            have HBf := Lib.hid (below_grown (below_then HB8.out (by first | exact below_alloc (below_then (Below.refl _ _).drew h9) _ | exact below_then (below_alloc (Below.refl _ _).drew _) h9)) hg10 hB)
            clear ha10 hg10 h9 hmk hcv hcv2
            by_cases hmo0 : more ≤ 0
            · obtain rfl : f = 0 := by rw [HF.out, if_pos hmo0]
              have y1 : decide (more ≤ 0) = true := by simp; omega
              go_wp2_with fail
              refine (AL.out _).mono ?_
              rintro e w11 ⟨rfl, h11⟩
              have HB12 := Lib.hid (below_then HBf.out h11)
              clear h11
              go_wp2_with fail
              go_ret
              exact ⟨rfl, HB12.out⟩
            · obtain rfl : f = 4 := by rw [HF.out, if_neg hmo0]
              have y1 : decide (more ≤ 0) = false := by simp; omega
              go_wp2_with fail
              refine (AL.out _).mono ?_
              rintro e w11 ⟨rfl, h11⟩
              have HB12 := Lib.hid (below_then HBf.out h11)
              clear h11
              go_wp2_with fail
              go_ret
              exact ⟨rfl, HB12.out⟩
      | true =>
        go_wp2_with fail
        refine (LN.out _ HA7.out).mono ?_
        rintro e w7 ⟨rfl, h7⟩
        have HA8 := Lib.hid (HA7.out.below h7)
        have HB8 := Lib.hid (below_then HB7.out h7)
        clear h7 HA7 HB7
        by_cases hpos : 0 < ar.L.length
        case neg =>
          have hpd : decide (0 < (ar.L.length : Int)) = false := decide_eq_false (by omega)
          have v1 : IntKind.i64.wrap (ar.free - 4) = ar.free - 4 := IntWalk.i64_in _ ⟨by omega, by omega⟩
          have v2 : IntKind.i64.wrap more = more := IntWalk.i64_in _ ⟨by omega, by omega⟩
          have v3 : IntKind.i64.wrap (ar.free - 4 + more) = ar.free - 4 + more := IntWalk.i64_in _ ⟨by omega, by omega⟩
          by_cases hm : ar.free - 4 + more < 0
          · by_cases h4 : 4 ≤ ar.free
            · have p1 : decide (4 ≤ ar.free) = true := by simp; omega
              have p2 : decide (ar.free - 4 + more < 0) = true := by simp; omega
              go_wp2_with fail
              refine (AL.out _).mono ?_
              rintro e w8 ⟨rfl, h8⟩
              have HB9 := Lib.hid (below_then HB8.out h8)
              clear h8
              go_wp2_with fail
              go_ret
              exact ⟨rfl, HB9.out⟩
            · have p1 : decide (4 ≤ ar.free) = false := by simp; omega
              have p2 : decide (ar.free - 4 + more < 0) = true := by simp; omega
              have PU0 := putA gA gB all (0 : Nat) ar ⟨#[]⟩ w7 HG.out (by decide) HA8.out
              have hpz : (ar.put (0 : Nat) (⟨#[]⟩ : ByteArray).data.toList).2 = 4 := by
                unfold Ar.put
                rw [if_neg (by omega), if_pos (by show ar.free < (0 : Nat) + 4; omega)]
              rw [hpz] at PU0
              have PU := Lib.hid PU0
              clear PU0 hpz
              go_wp2_with fail
              refine PU.out.mono ?_
              rintro e w8 ⟨rfl, ha8, hg8⟩
              have HB9 := Lib.hid (below_grown HB8.out hg8 hB)
              clear ha8 hg8
              go_wp2_with fail
              refine (AL.out _).mono ?_
              rintro e w9 ⟨rfl, h9⟩
              have HB10 := Lib.hid (below_then HB9.out h9)
              clear h9
              go_wp2_with fail
              go_ret
              exact ⟨rfl, HB10.out⟩
          · obtain ⟨m, hm'⟩ := Int.eq_ofNat_of_zero_le (Int.not_lt.1 hm)
            rw [hm'] at v3
            have hmr : m ≤ 2000 := by omega
            have hZs : (⟨(List.replicate m 0).toArray⟩ : ByteArray).data.toList = List.replicate m (0 : UInt8) := rfl
            have hput : (ar.put ((at_ % (ar.L.length + 1) : Nat) : Int) (List.replicate m (0 : UInt8))).2 = if more ≤ 0 then 0 else 4 := by
              have hlt : at_ % (ar.L.length + 1) < ar.L.length + 1 := Nat.mod_lt _ (Nat.succ_pos _)
              unfold Ar.put
              rw [if_neg (by omega), List.length_replicate]
              by_cases hmo0 : more ≤ 0
              · rw [if_neg (by omega), if_pos hmo0]
              · rw [if_pos (by omega), if_neg hmo0]
            obtain ⟨r, hr⟩ : ∃ r, r = at_ % (ar.L.length + 1) := ⟨_, rfl⟩
            have hrle : r ≤ at_ := by rw [hr]; exact Nat.mod_le _ _
            have r0 : ((at_ : Int) % ((ar.L.length : Int) + 1)) = (r : Int) := by rw [hr]; simp
            have r1 : ((at_ : Int)).tmod ((ar.L.length : Int) + 1) = (r : Int) := by rw [Int.tmod_eq_emod_of_nonneg (by omega)]; exact r0
            have r2 : IntKind.i64.wrap (r : Int) = r := IntWalk.i64_in _ ⟨by omega, by omega⟩
            have r3 : ¬ ((ar.L.length : Int) + 1) = 0 := by omega
            have r4 : IntKind.i64.wrap (at_ : Int) = at_ := IntWalk.i64_in _ ⟨by omega, by omega⟩
            have r5 : IntKind.i64.wrap ((ar.L.length : Int) + 1) = (ar.L.length : Int) + 1 := IntWalk.i64_in _ ⟨by omega, by omega⟩
            rw [← hr] at hput
            have hsz100 : (⟨(List.replicate m (0 : UInt8)).toArray⟩ : ByteArray).size ≤ 100000 := by show (List.replicate m (0 : UInt8)).toArray.size ≤ 100000; simp; omega
            have PU0 := fun W hW => putA gA gB all (r : Nat) ar ⟨(List.replicate m 0).toArray⟩ W HG.out hsz100 hW
            have hmk := fun (W : World) => run_make_zeros (P := Try.prog) W 38 5 m Try.underlying38 (by kernel_rfl) (by kernel_rfl) (by kernel_rfl) (by omega)
            have hcv0 := fun (W : World) (g : Nat) h => run_zeros_str (P := Try.prog) W 38 5 9 g m Try.underlying38 Try.underlying5 Try.underlying9 h
            have hcv : ∀ W : World, (convert 38 9 (.slice (some ⟨W.heap.size, 0, none⟩) m m)).run Try.prog (W.alloc (.cells (zerosRow m) 5)) = .ok (.string ⟨(List.replicate m 0).toArray⟩) (W.alloc (.cells (zerosRow m) 5)) := fun W => hcv0 _ _ (heap_alloc_new W _)
            have hcv2 : ∀ W : World, (convert 38 9 (.slice (some ⟨W.heap.size, 0, none⟩) m m)).run Try.prog (W.alloc (.cells (zerosRow m) 5)).drew = .ok (.string ⟨(List.replicate m 0).toArray⟩) (W.alloc (.cells (zerosRow m) 5)).drew := fun W => hcv0 _ _ (heap_alloc_new W _)
            rw [hZs, hput] at PU0
            generalize (⟨(List.replicate m (0 : UInt8)).toArray⟩ : ByteArray) = Z at *
            generalize zerosRow m = CS at *
            generalize (ar.put (r : Int) (List.replicate m (0 : UInt8))).1 = ar2 at *
            have HCV0 := Lib.hid hcv0
            clear hr hcv0 hput hZs hsz100
            obtain ⟨f, hf0⟩ : ∃ f : Int, f = if more ≤ 0 then 0 else 4 := ⟨_, rfl⟩
            rw [← hf0] at PU0
            have HF := Lib.hid hf0
            have PU := Lib.hid PU0
            clear PU0 hf0
            go_wp2_with fail
            go_region_with (first
              | (go_at_call 18; refine (LN.out _ (HA8.out.below (by first | exact (Below.refl _ _).drew | exact below_alloc (Below.refl _ _).drew _))).mono ?_; rintro e w9 ⟨rfl, h9⟩; try (have hcw := HCV0.out w9 w7.heap.size ((h9.block _ (by simp)).trans (heap_alloc_new _ _))))
              | (go_at_call 16; refine (PU.out _ (HA8.out.below (by first | exact below_alloc (below_then (Below.refl _ _).drew h9) _ | exact below_then (below_alloc (Below.refl _ _).drew _) h9))).mono ?_; rintro e w10 ⟨rfl, ha10, hg10⟩))
            all_goals
              have HBf := Lib.hid (below_grown (below_then HB8.out (by first | exact below_alloc (below_then (Below.refl _ _).drew h9) _ | exact below_then (below_alloc (Below.refl _ _).drew _) h9)) hg10 hB)
              clear ha10 hg10 h9 hmk hcv hcv2
              by_cases hmo0 : more ≤ 0
              · obtain rfl : f = 0 := by rw [HF.out, if_pos hmo0]
                have y1 : decide (more ≤ 0) = true := by simp; omega
                go_wp2_with fail
                refine (AL.out _).mono ?_
                rintro e w11 ⟨rfl, h11⟩
                have HB12 := Lib.hid (below_then HBf.out h11)
                clear h11
                go_wp2_with fail
                go_ret
                exact ⟨rfl, HB12.out⟩
              · obtain rfl : f = 4 := by rw [HF.out, if_neg hmo0]
                have y1 : decide (more ≤ 0) = false := by simp; omega
                go_wp2_with fail
                refine (AL.out _).mono ?_
                rintro e w11 ⟨rfl, h11⟩
                have HB12 := Lib.hid (below_then HBf.out h11)
                clear h11
                go_wp2_with fail
                go_ret
                exact ⟨rfl, HB12.out⟩
        have hpd : decide (0 < (ar.L.length : Int)) = true := decide_eq_true (by omega)
        obtain ⟨r, hr⟩ : ∃ r, r = at_ % ar.L.length := ⟨_, rfl⟩
        have hrl : r < ar.L.length := by rw [hr]; exact Nat.mod_lt _ hpos
        have hrle : r ≤ at_ := by rw [hr]; exact Nat.mod_le _ _
        have r0 : ((at_ : Int) % (ar.L.length : Int)) = (r : Int) := by rw [hr]; simp
        have r1 : ((at_ : Int)).tmod (ar.L.length : Int) = (r : Int) := by rw [Int.tmod_eq_emod_of_nonneg (by omega)]; exact r0
        have r2 : IntKind.i64.wrap (r : Int) = r := IntWalk.i64_in _ ⟨by omega, by omega⟩
        have r3 : ¬ (ar.L.length : Int) = 0 := by omega
        have r4 : IntKind.i64.wrap (at_ : Int) = at_ := IntWalk.i64_in _ ⟨by omega, by omega⟩
        have hgd : (ar.L.getD r (0, 0)).2 = (⟨(ar.text ar.L[r]).toArray⟩ : ByteArray).size := by
          have e1 : (ar.L.getD r (0, 0)) = ar.L[r] := by simp [List.getD_eq_getElem?_getD, hrl]
          have e2 := HG.out.text_len (List.getElem_mem hrl)
          rw [e1, ← e2]
          exact List.size_toArray.symm
        have hxs : (⟨(ar.text ar.L[r]).toArray⟩ : ByteArray).size ≤ 4096 := by
          have h1 := HG.out.text_len (List.getElem_mem hrl)
          have h2 := HG.out.inn _ (List.getElem_mem hrl)
          have h3 := hf.hi
          have h4 : (⟨(ar.text ar.L[r]).toArray⟩ : ByteArray).size = (ar.text ar.L[r]).length := List.size_toArray
          omega
        have G := Lib.hid (GE.out r hrl)
        generalize (⟨(ar.text ar.L[r]).toArray⟩ : ByteArray) = X at *
        have v2 : IntKind.i64.wrap more = more := IntWalk.i64_in _ ⟨by omega, by omega⟩
        have v1 : IntKind.i64.wrap ((X.size : Int) + ar.free) = (X.size : Int) + ar.free := IntWalk.i64_in _ ⟨by omega, by omega⟩
        have v3 : IntKind.i64.wrap ((X.size : Int) + ar.free + more) = (X.size : Int) + ar.free + more := IntWalk.i64_in _ ⟨by omega, by omega⟩
        by_cases hm : (X.size : Int) + ar.free + more < 0
        · have p2 : decide ((X.size : Int) + ar.free + more < 0) = true := by simp; omega
          clear hr r0 hgd
          go_wp2_with fail
          refine (LN.out _ HA8.out).mono ?_
          rintro e w8 ⟨rfl, h8⟩
          have HA9 := Lib.hid (HA8.out.below h8)
          have HB9 := Lib.hid (below_then HB8.out h8)
          clear h8
          go_wp2_with fail
          refine (G.out _ HA9.out).mono ?_
          rintro e w9 ⟨rfl, h9⟩
          have HB10 := Lib.hid (below_then HB9.out h9)
          clear h9
          go_wp2_with fail
          refine (AL.out _).mono ?_
          rintro e w10 ⟨rfl, h10⟩
          have HB11 := Lib.hid (below_then HB10.out h10)
          clear h10
          go_wp2_with fail
          go_ret
          exact ⟨rfl, HB11.out⟩
        · obtain ⟨m, hm'⟩ := Int.eq_ofNat_of_zero_le (Int.not_lt.1 hm)
          rw [hm'] at v3
          have hmr : m ≤ 10000 := by omega
          have hZs : (⟨(List.replicate m 0).toArray⟩ : ByteArray).data.toList = List.replicate m (0 : UInt8) := rfl
          have hset : (ar.set ((r : Nat) : Int) (List.replicate m (0 : UInt8))).2 = if more ≤ 0 then 0 else 4 := by
            unfold Ar.set
            rw [if_neg (by omega), List.length_replicate, Int.toNat_natCast, hgd]
            by_cases hmo0 : more ≤ 0
            · rw [if_pos hmo0]
              by_cases hle : m ≤ X.size
              · rw [if_pos hle]
              · rw [if_neg hle, if_neg (by omega)]
            · rw [if_neg hmo0, if_neg (by omega), if_pos (by omega)]
          have hmk := fun (W : World) => run_make_zeros (P := Try.prog) W 38 5 m Try.underlying38 (by kernel_rfl) (by kernel_rfl) (by kernel_rfl) (by omega)
          have hcv0 := fun (W : World) (g : Nat) h => run_zeros_str (P := Try.prog) W 38 5 9 g m Try.underlying38 Try.underlying5 Try.underlying9 h
          have hcv : ∀ W : World, (convert 38 9 (.slice (some ⟨W.heap.size, 0, none⟩) m m)).run Try.prog (W.alloc (.cells (zerosRow m) 5)) = .ok (.string ⟨(List.replicate m 0).toArray⟩) (W.alloc (.cells (zerosRow m) 5)) := fun W => hcv0 _ _ (heap_alloc_new W _)
          have hsz100 : (⟨(List.replicate m (0 : UInt8)).toArray⟩ : ByteArray).size ≤ 100000 := by show (List.replicate m (0 : UInt8)).toArray.size ≤ 100000; simp; omega
          have SE0 := fun W hW => setA gA gB all (r : Nat) ar ⟨(List.replicate m 0).toArray⟩ W HG.out hsz100 hW
          rw [hZs, hset] at SE0
          generalize (⟨(List.replicate m (0 : UInt8)).toArray⟩ : ByteArray) = Z at *
          generalize zerosRow m = CS at *
          generalize (ar.set (r : Int) (List.replicate m (0 : UInt8))).1 = ar2 at *
          obtain ⟨f, hf0⟩ : ∃ f : Int, f = if more ≤ 0 then 0 else 4 := ⟨_, rfl⟩
          rw [← hf0] at SE0
          have HF := Lib.hid hf0
          have SE := Lib.hid SE0
          have Hm := Lib.hid hm'
          clear hr r0 hgd hcv0 SE0 hset hZs hsz100 hf0 hm' v3
          go_wp2_with fail
          refine (LN.out _ HA8.out).mono ?_
          rintro e w8 ⟨rfl, h8⟩
          have HA9 := Lib.hid (HA8.out.below h8)
          have HB9 := Lib.hid (below_then HB8.out h8)
          clear h8
          go_wp2_with fail
          refine (G.out _ HA9.out).mono ?_
          rintro e w9 ⟨rfl, h9⟩
          have HA10 := Lib.hid (below_alloc h9 (.cells CS 5))
          have HB10 := Lib.hid (below_then HB9.out HA10.out)
          have HA11 := Lib.hid (HA9.out.below HA10.out)
          clear h9
          go_wp2_with fail
          rw [Hm.out, hmk w9]
          go_wp2_with fail
          refine (SE.out _ HA11.out).mono ?_
          rintro e w10 ⟨rfl, ha10, hg10⟩
          have HBf := Lib.hid (below_grown HB10.out hg10 hB)
          clear ha10 hg10 hmk hcv
          by_cases hmo0 : more ≤ 0
          · obtain rfl : f = 0 := by rw [HF.out, if_pos hmo0]
            have y1 : decide (more ≤ 0) = true := by simp; omega
            go_wp2_with fail
            refine (AL.out _).mono ?_
            rintro e w11 ⟨rfl, h11⟩
            have HB12 := Lib.hid (below_then HBf.out h11)
            clear h11
            go_wp2_with fail
            go_ret
            exact ⟨rfl, HB12.out⟩
          · obtain rfl : f = 4 := by rw [HF.out, if_neg hmo0]
            have y1 : decide (more ≤ 0) = false := by simp; omega
            go_wp2_with fail
            refine (AL.out _).mono ?_
            rintro e w11 ⟨rfl, h11⟩
            have HB12 := Lib.hid (below_then HBf.out h11)
            clear h11
            go_wp2_with fail
            go_ret
            exact ⟨rfl, HB12.out⟩

end Go.Proofs.Ytlpfilpijiglpaa
