/- An area is compacted -/
import Derived.Test.YtienlhnbmobinaaRows
import Derived.Test.YtienlhnbmobinaaSlotArea
import Derived.Test.YtienlhnbmobinaaBase
import Derived.WalkKit
import Derived.WalkLawsBesides
import Derived.WalkSpells
import Derived.LoopTactic
import Derived.WalkMore
import Derived.LoopN
import Derived.Laws.BitsAllLaws
import Derived.Laws.IdiomStrings
import Derived.BigQuiet
import Derived.Deep.QuietTactic
import Derived.Deep.DeepCutAuto
import Derived.Deep.RegionHeld3
import Derived.Deep.DrawnRows
import Derived.Lib.Hide
import Derived.Outline
import Derived.Deep.DeepMust
import Derived.Handy
namespace Go.Proofs.Ytienlhnbmobinaa
open Go.RowKit
set_option linter.unusedVariables false
set_option linter.unusedSimpArgs false

set_option maxHeartbeats 1000000 in
set_option maxRecDepth 100000 in
theorem againA (gA gB gV cap k : Nat) (a : Ar) (s : ByteArray) (w : World) (ha : a.Fit) (hk : k < a.L.length) (hr : a.fin + s.size ≤ a.low) (hv : w.cell? ⟨gV, 0, none⟩ = some (.pointer (some ⟨gA, 0, none⟩))) (hne : gV ≠ gB) (h : ArAt w gA gB cap a) :
    Calls Try.prog 190 #[.int .i64 k, .string s, .pointer (some ⟨gV, 0, none⟩)] w fun e w' => e = .returned (.tuple #[]) ∧ ArAt w' gA gB cap (a.stand k s.data.toList) ∧ w.grownBy w' (some gB) := by
  have hsl : s.data.toList.length = s.size := by simp
  have := ha.l; have := ha.hi
  have B := Lib.hid fun W hW => belowA gA gB cap a s W ha hr hW
  have P0 := fun W hW => placeA gA gB cap k (a.low - s.size) s.size (a.below s.data.toList) W (ha.below _ (by omega)) hk (by omega) (by omega) hW
  have hS : Hid (({ a.below s.data.toList with L := (a.below s.data.toList).L.set k (a.low - s.size, s.size) } : Ar) = a.stand k s.data.toList) := by show _ = _; rw [← hsl]; rfl
  have P := Lib.hid P0
  have H := Lib.hid h
  clear P0 h
  generalize a.low - s.size = low at *
  have key : ∀ (w1 : World), ArAt w1 gA gB cap (a.below s.data.toList) → w.grownBy w1 (some gB) → w1.cell? ⟨gV, 0, none⟩ = some (.pointer (some ⟨gA, 0, none⟩)) := fun w1 _ hg => hg.cell hv (by simp; exact hne)
  have Key := Lib.hid key
  have key2 : ∀ (w1 : World), ArAt w1 gA gB cap { a.below s.data.toList with L := (a.below s.data.toList).L.set k (low, s.size) } → w.grownBy w1 (some gB) → w1.cell? ⟨gV, 0, none⟩ = some (.pointer (some ⟨gA, 0, none⟩)) := fun w1 _ hg => hg.cell hv (by simp; exact hne)
  have Key2 := Lib.hid key2
  clear key key2
  go_enter Try.func190, Try.ntmps190
  go_region_held3 (fun w' => w'.cell? ⟨gV, 0, none⟩ = some (.pointer (some ⟨gA, 0, none⟩))) (first | exact Key.out _ h1 (grown_drew g1) | exact Key2.out _ h2 (grown_trans (grown_drew g1) g2) | go_keep) (first
    | (go_at_call 161; refine (B.out _ (H.out.below (Below.refl _ _).drew)).mono ?_; rintro e w1 ⟨rfl, h1, g1⟩)
    | (go_at_call 163; refine (P.out _ h1).mono ?_; rintro e w2 ⟨rfl, h2, g2⟩))
  go_wp2_with fail
  go_end0
  rw [hS.out] at h2
  exact ⟨rfl, h2, grown_trans (grown_drew g1) g2⟩

theorem Stood.fit {a c : Ar} {k : Nat} (hg : a.Good) (h : Stood a.B.length a.L.length a.fin a.texts k c) : c.Fit ∧ c.fin = a.fin := by
  have h1 := sum_take_le a.texts k
  have h2 := hg.texts_fit
  have h3 := h.low
  have h4 : c.fin = a.fin := by unfold Ar.fin; rw [h.cnt]
  exact ⟨⟨by rw [h.len]; exact hg.lo, by rw [h.len]; exact hg.hi, by omega, by rw [h.len]; omega⟩, h4⟩
set_option maxHeartbeats 2000000 in
set_option maxRecDepth 100000 in
theorem compactA (gA gB cap : Nat) (a : Ar) (w : World) (hg : a.Good) (h : ArAt w gA gB cap a) :
    Calls Try.prog 160 #[.pointer (some ⟨gA, 0, none⟩)] w fun e w' => e = .returned (.int .i64 (a.compact.gap - a.gap)) ∧ ArAt w' gA gB cap a.compact ∧ w.grownBy w' (some gB) := by
  have hf := hg.fit
  have hn := hf.n
  have N := Lib.hid fun W (hW : Below w.heap.size w W) => noneA gA gB cap a W hf (h.below hW)
  have GP := Lib.hid fun W (hW : Below w.heap.size w W) => gapA gA gB cap a W hf (h.below hW)
  have LN := Lib.hid fun W (hW : Below w.heap.size w W) => lenA gA gB cap a W hf (h.below hW)
  have TX := Lib.hid fun k (hk : k < a.L.length) W (hW : Below w.heap.size w W) => textA gA gB cap k a W hg hk (h.below hW)
  have B0 := (Below.refl w.heap.size w).alloc (Nat.le_refl _) (.cells #[.pointer (some ⟨gA, 0, none⟩)] 131)
  have V0 : (w.alloc (.cells #[.pointer (some ⟨gA, 0, none⟩)] 131)).cell? ⟨w.heap.size, 0, none⟩ = some (.pointer (some ⟨gA, 0, none⟩)) := by rw [blk_cell (heap_alloc_new w _)]; rfl
  have hlt : gB < w.heap.size := h.area.row.lt
  have ht : a.texts.length = a.L.length := by simp [Ar.texts]
  have HV0 := Lib.hid V0
  have HB0 := Lib.hid B0
  have HW := Lib.hid h
  obtain ⟨i0, hi, hz0, hz1, hz2⟩ := info_parts (P := Try.prog) (e := 9) (z := .string ⟨#[]⟩) (size := 1) (bytes := 16) (by kernel_rfl)
  clear h V0 B0
  have Ht := Lib.hid ht
  clear ht
  go_enter Try.func160, Try.ntmps160
  go_wp2_with fail
  refine (N.out _ HB0.out).mono ?_
  rintro e w1 ⟨rfl, h1⟩
  have V1 := keep_cell h1 HV0.out
  have B1 := below_then HB0.out h1
  have HB1 := Lib.hid B1
  clear h1 B1 HV0 HB0
  go_wp2_with fail
  refine (GP.out _ HB1.out).mono ?_
  rintro e w2 ⟨rfl, h2⟩
  have V2 := keep_cell h2 V1
  have B2 := below_then HB1.out h2
  have HB2 := Lib.hid B2
  clear h2 B2 HB1 V1
  go_wp2_with fail
  refine (LN.out _ HB2.out).mono ?_
  rintro e w3 ⟨rfl, h3⟩
  have V3 := keep_cell h3 V2
  have HB3 := Lib.hid (below_then HB2.out h3)
  have HV3 := Lib.hid V3
  clear h3 HB2 V2 V3
  go_wp2_with fail
  go_loopw [4, 16] (fun s4 s16 wr => ∃ j : Nat, j ≤ a.L.length ∧ s16 = .int .i64 j ∧ wr.ownsRow (w.heap.size + 1) 9 1 s4 j (strs (a.texts.take j)) ∧ wr.cell? ⟨w.heap.size, 0, none⟩ = some (.pointer (some ⟨gA, 0, none⟩)) ∧ Below w.heap.size w wr) (fun _ i _ => a.L.length - (intOf i).toNat)
  case atStart => exact ⟨0, Nat.zero_le _, rfl, by simpa [strs] using World.ownsRow_nil _ _ _ _, HV3.out, HB3.out⟩
  case round =>
    obtain ⟨j, hj, rfl, hown, hV, hB⟩ := hrel
    have HB := Lib.hid hB
    have HO := Lib.hid hown
    have HV := Lib.hid hV
    clear hB hown HB3 HV3
    by_cases hc : j < a.L.length
    · have TT := Lib.hid (TX.out j hc)
      go_wp2_with fail
      refine (TT.out _ HB.out).mono ?_
      rintro e w4 ⟨rfl, h4⟩
      have HB4 := Lib.hid (below_then HB.out h4)
      have HO4 := Lib.hid (own_below HO.out h4)
      have HV4 := Lib.hid (keep_cell h4 HV.out)
      have hz4 := cell_lt HV4.out
      simp at hz4
      have hjt : j < a.texts.length := by rw [Ht.out]; exact hc
      have Hs : Hid (strs (a.texts.take j) ++ [.string ⟨(a.text a.L[j]).toArray⟩] = strs (a.texts.take (j + 1))) := by
        show _ = _
        rw [strs_snoc _ _ hjt]
        simp [Ar.texts]
      generalize a.text a.L[j] = T at *
      clear h4 hV
      go_wp2_with (at_builtin; refine wpList_append_own _ rfl _ _ 24 rfl (w.heap.size + 1) 9 i0 (.string ⟨#[]⟩) 1 16 Try.underlying24 hi hz0 hz1 hz2 rfl (by decide) _ _ _ (by rfl) (HO4.out.alloc _) ⟨w4.heap.size, 0, none⟩ 1 1 [.string ⟨T.toArray⟩] (by rfl) rfl (one_new _ _ _) (one_str _) (by unfold maxLen; omega) (by omega) (by simp; omega) ?_; intro v' w5 hown5 hgrow5 _)
      have HB5 := Lib.hid (below_own (HB4.out.alloc (by omega) (.cells #[.string ⟨T.toArray⟩] 9)) (HO4.out.alloc _) (by omega) hgrow5)
      have HV5 := Lib.hid (hgrow5.cell (a := ⟨w.heap.size, 0, none⟩) (keep_cell ((Below.refl w4.heap.size w4).alloc (Nat.le_refl _) _) HV4.out) (by
        cases hv : u4.ownBlock with
        | none => simp
        | some k => have := (HO4.out.lt k hv).1; simp; omega))
      rw [Hs.out] at hown5
      have HO5 := Lib.hid hown5
      clear hown5 hgrow5
      go_wp2_with fail
      go_roundw
      case rel => exact ⟨j + 1, by omega, by go_num, HO5.out, HV5.out, HB5.out⟩
      case measure => simp [intOf]; omega
    · obtain rfl : j = a.L.length := by omega
      go_wp2_with fail
      have HWr := Lib.hid (HW.out.below HB.out)
      have own' : wr.cell? ⟨gA, 0, none⟩ = some (.slice (some ⟨gB, 0, none⟩) a.B.length cap) := by rw [← hf.len, blk_cell HWr.out.area.own]; rfl
      have c0 := ext_cell (w := wr) (b := gA) (o := 0) own' (cell_lt own')
      have c1 := ext_cell (w := wr) (b := w.heap.size) (o := 0) HV.out (cell_lt HV.out)
      have hlow := hf.hi
      clear own' hV
      refine wp_region_ext_tail wr.heap.size 6 (by kernel_rfl) (by kernel_rfl) ?_
      simp only [List.take_succ_cons, List.take_zero, List.drop_succ_cons, List.drop_zero]
      repeat (go_big_quiet_step (fail))
      refine wpQuiet_nil ?_
      rintro _ ⟨X, rfl⟩
      have hX := X.below
      generalize X.val = wx at hX
      have HBx := Lib.hid (below_then HB.out hX)
      have HVx := Lib.hid (keep_cell hX HV.out)
      have HOx := Lib.hid (own_below HO.out hX)
      clear c0 c1 hX HB HO HV HWr
      go_wp2_with fail
      refine (lowTwoA gA gB cap a.B.length a _ hf (by omega) (HW.out.below HBx.out)).mono ?_
      rintro e w5 ⟨rfl, hA5, hg5⟩
      have HA5 := Lib.hid hA5
      have HG5 := Lib.hid (grown_step HBx.out hg5)
      have HV5 := Lib.hid (hg5.cell (a := ⟨w.heap.size, 0, none⟩) HVx.out (by simp; omega))
      have HO5 := Lib.hid (own_far HOx.out hg5 (by omega))
      clear hA5 hg5 HVx HOx HBx
      obtain ⟨b4, cp4, rfl, hcp, hcm, hb4⟩ := own_form HO5.out
      have hb4' := Lib.hid hb4
      clear hb4
      unfold maxLen at hcm
      go_wp2_with fail
      go_loopw [36] (fun s36 wr2 => ∃ j : Nat, j ≤ a.L.length ∧ s36 = .int .i64 j ∧ wr2.ownsRow (w.heap.size + 1) 9 1 (.slice b4 a.L.length cp4) a.L.length (strs (a.texts.take a.L.length)) ∧ wr2.cell? ⟨w.heap.size, 0, none⟩ = some (.pointer (some ⟨gA, 0, none⟩)) ∧ ArAt wr2 gA gB cap (({ a with low := a.B.length } : Ar).stands a.texts j) ∧ w.grownBy wr2 (some gB)) (fun i _ => a.L.length - (intOf i).toNat)
      case atStart => exact ⟨0, Nat.zero_le _, rfl, HO5.out, HV5.out, HA5.out, HG5.out⟩
      case round =>
        obtain ⟨j, hj2, rfl, hown, hV, hA, hG⟩ := hrel
        have HO := Lib.hid hown
        have HV := Lib.hid hV
        have HA := Lib.hid hA
        have HG := Lib.hid hG
        have ST := Lib.hid (Stood.all a a.texts Ht.out hg.texts_fit j hj2)
        clear hown hV hA hG HO5 HV5 HA5 HG5
        by_cases hc2 : j < a.L.length
        · obtain ⟨g4, rfl, hg4⟩ := hb4'.out (by omega)
          have hjt : j < a.texts.length := by rw [Ht.out]; exact hc2
          have t0 := own_cell HO.out j (.string ⟨(a.texts[j]'hjt).toArray⟩) (by
            unfold strs
            rw [List.take_of_length_le (by rw [Ht.out]; exact Nat.le_refl _), List.getElem?_map, List.getElem?_eq_getElem hjt]
            rfl)
          have hgd : a.texts.getD j [] = a.texts[j] := by simp [List.getD_eq_getElem?_getD, hjt]
          have hroom := ST.out.room hg.texts_fit hjt
          have hfit := Stood.fit hg ST.out
          rw [hgd] at hroom
          have AG0 := fun W hV hA => againA gA gB w.heap.size cap j (({ a with low := a.B.length } : Ar).stands a.texts j) ⟨(a.texts[j]'hjt).toArray⟩ W hfit.1 (by rw [ST.out.cnt]; exact hc2) (by rw [hfit.2]; exact hroom) hV (by omega) hA
          have hst : Hid ((({ a with low := a.B.length } : Ar).stands a.texts j).stand j (⟨(a.texts[j]'hjt).toArray⟩ : ByteArray).data.toList = ({ a with low := a.B.length } : Ar).stands a.texts (j + 1)) := by
            show _ = ((({ a with low := a.B.length } : Ar).stands a.texts j).stand j (a.texts.getD j []))
            rw [hgd]
          have AG := Lib.hid AG0
          clear AG0 hroom hfit hgd
          generalize (a.texts[j]'hjt) = T at *
          have j1 : (0 : Int) ≤ (j : Int) := by omega
          have j2 : (j : Int) < (a.L.length : Int) := by omega
          go_wp2_with fail
          refine (AG.out _ HV.out HA.out).mono ?_
          rintro e w6 ⟨rfl, hA6, hg6⟩
          rw [hst.out] at hA6
          have HA6 := Lib.hid hA6
          have HG6 := Lib.hid (grown_trans HG.out hg6)
          have HV6 := Lib.hid (hg6.cell (a := ⟨w.heap.size, 0, none⟩) HV.out (by simp; omega))
          have HO6 := Lib.hid (own_far HO.out hg6 (by omega))
          clear hA6 hg6 HV HO HA HG
          go_wp2_with fail
          go_roundw
          case rel => exact ⟨j + 1, by omega, by go_num, HO6.out, HV6.out, HA6.out, HG6.out⟩
          case measure => simp [intOf]; omega
        · obtain rfl : j = a.L.length := by omega
          have hS := ST.out
          have hfit := Stood.fit hg hS
          have hcl := hS.len
          have hcn := hS.cnt
          have hC : Hid (a.compact = { ({ a with low := a.B.length } : Ar).stands a.texts a.L.length with B := List.replicate (({ a with low := a.B.length } : Ar).stands a.texts a.L.length).low 0 ++ (({ a with low := a.B.length } : Ar).stands a.texts a.L.length).B.drop (({ a with low := a.B.length } : Ar).stands a.texts a.L.length).low }) := rfl
          generalize ({ a with low := a.B.length } : Ar).stands a.texts a.L.length = c at *
          obtain ⟨hcf, hfin⟩ := hfit
          have LC0 := fun W hW => lenA gA gB cap c W hcf hW
          rw [hcn] at LC0
          have LC := Lib.hid LC0
          have LW := Lib.hid fun W hW => lowA gA gB cap c W hcf hW
          have c1f := hcf.f
          have c1l := hcf.l
          have c1h := hcf.hi
          have hafin : Hid (a.fin = 4 + 4 * a.L.length) := rfl
          clear hS ST LC0 hcn HW N GP LN TX
          have V6 := HV.out
          go_wp2_with fail
          refine (LC.out _ HA.out).mono ?_
          rintro e w6 ⟨rfl, h6⟩
          have HA6 := Lib.hid (HA.out.below h6)
          have HV6 := Lib.hid (keep_cell h6 HV.out)
          have HG6 := Lib.hid (grown_trans HG.out (grown_below _ h6))
          clear h6 HA HV HG HO V6
          have m1 : IntKind.i64.wrap (4 * (a.L.length : Int)) = 4 * (a.L.length : Int) := IntWalk.i64_in _ ⟨by omega, by omega⟩
          have m2 : IntKind.i64.wrap (4 + 4 * (a.L.length : Int)) = (a.fin : Int) := by rw [hafin.out, show ((4 + 4 * a.L.length : Nat) : Int) = 4 + 4 * (a.L.length : Int) by omega]; exact IntWalk.i64_in _ ⟨by omega, by omega⟩
          rw [hfin] at c1f
          generalize a.fin = F at *
          go_wp2_with fail
          have own' : w6.cell? ⟨gA, 0, none⟩ = some (.slice (some ⟨gB, 0, none⟩) a.B.length cap) := by rw [← hcl, ← hcf.len, blk_cell HA6.out.area.own]; rfl
          have c0 := ext_cell (w := w6) (b := gA) (o := 0) own' (cell_lt own')
          have c1 := ext_cell (w := w6) (b := w.heap.size) (o := 0) HV6.out (cell_lt HV6.out)
          have hcap := HA6.out.room
          rw [hcl] at hcap c1l c1h
          have q0 : (0 : Int) ≤ (F : Int) := by omega
          have q1 : (F : Int) ≤ (c.low : Int) := by omega
          have q2 : (c.low : Int) ≤ (cap : Int) := by omega
          have q3 : IntKind.i64.wrap ((c.low : Int) - (F : Int)) = ((c.low - F : Nat) : Int) := by rw [show ((c.low - F : Nat) : Int) = (c.low : Int) - (F : Int) by omega]; exact IntWalk.i64_in _ ⟨by omega, by omega⟩
          have RP0 := fun W => Try.strings_Repeat ⟨#[0]⟩ (c.low - F) W (by omega) (by show 1 * _ ≤ _; omega)
          have hZ0 : (⟨(Lib.repeatL (⟨#[0]⟩ : ByteArray).data.toList (c.low - F)).toArray⟩ : ByteArray).data.toList = List.replicate (c.low - F) 0 := by
            show Lib.repeatL (List.replicate 1 0) (c.low - F) = _
            rw [Lib.repeatL_replicate, Nat.mul_one]
          have hZ1 : (⟨(Lib.repeatL (⟨#[0]⟩ : ByteArray).data.toList (c.low - F)).toArray⟩ : ByteArray).size = c.low - F := by
            have e := congrArg List.length hZ0
            rw [List.length_replicate] at e
            exact e
          generalize (⟨(Lib.repeatL (⟨#[0]⟩ : ByteArray).data.toList (c.low - F)).toArray⟩ : ByteArray) = Z at *
          have RP := Lib.hid RP0
          have HZ := Lib.hid hZ0
          have HZ1 := Lib.hid hZ1
          have hk := hg.compact
          have hcg := hk.1.fit
          have hce : a.compact.enc = putAt c.enc F (List.replicate (c.low - F) 0) := by
            rw [hC.out, ← hfin]
            exact (c.wipe hcf.f hcf.l).symm
          have HCE := Lib.hid hce
          have GQ := Lib.hid fun W hW => gapA gA gB cap a.compact W hcg hW
          have g1 : 0 ≤ a.gap ∧ a.gap ≤ 4096 := by have := hf.f; have := hf.l; unfold Ar.gap; omega
          have g2 : 0 ≤ a.compact.gap ∧ a.compact.gap ≤ 4096 := by have := hcg.f; have := hcg.l; have := hcg.hi; unfold Ar.gap; omega
          have hcB : a.compact.B.length = a.B.length := hk.2.2.1
          have g3 : IntKind.i64.wrap (a.compact.gap - a.gap) = a.compact.gap - a.gap := IntWalk.i64_in _ ⟨by omega, by omega⟩
          have hcl2 : a.compact.enc.length = c.enc.length := by rw [hcg.len, hcf.len, hcB, hcl]
          have Hcl2 := Lib.hid hcl2
          have hfl : F + Z.size ≤ c.enc.length := by rw [hcf.len, hcl, hZ1]; omega
          have fin : ∀ (W W2 : World), ArAt W gA gB cap c → w.grownBy W (some gB) → W.grownBy W2 (some gB) → RowAt W2 gB (c.enc.take F ++ Z.data.toList ++ c.enc.drop (F + Z.size)) → ArAt W2 gA gB cap a.compact := by
            intro W W2 hA hG hg2 hr
            have he : c.enc.take F ++ Z.data.toList ++ c.enc.drop (F + Z.size) = a.compact.enc := by
              rw [HCE.out, HZ.out, HZ1.out]
              unfold putAt
              rw [List.length_replicate]
            rw [he] at hr
            exact ⟨hA.area.grown hg2 hr Hcl2.out, by rw [hcB]; exact hcap⟩
          have Fin := Lib.hid fin
          clear hZ0 hZ1 RP0 hk hce fin hcB hcl2
          have Hfl := Lib.hid hfl
          clear hfl
          by_cases hcc : cap = F
          · subst hcc
            have hlo0 : Hid (c.low - cap = 0) := by show _ = _; omega
            clear own'
            refine wp_region_ext_tail w6.heap.size 13 (by kernel_rfl) (by kernel_rfl) ?_
            simp only [List.take_succ_cons, List.take_zero, List.drop_succ_cons, List.drop_zero]
            repeat (go_big_quiet_step (first | (go_at_call 173; exact ext_call _ (Nat.le_refl _) (LW.out _ (HA6.out.below (Ext.below _)))) | (go_at_call 191; exact ext_call _ (Nat.le_refl _) (RP.out _))))
            refine wpQuiet_nil ?_
            rintro _ ⟨X, rfl⟩
            have hX := X.below
            generalize X.val = wx at hX
            have HAx := Lib.hid (HA6.out.below hX)
            have HVx := Lib.hid (keep_cell hX HV6.out)
            have HGx := Lib.hid (grown_trans HG6.out (grown_below _ hX))
            clear c0 c1 hX
            go_wp2_with fail
            refine upon_copy (k := 0) HAx.out.area.row 70 9 _ 5 Z Try.underlying70 (by kernel_rfl) (by rw [HZ1.out, hlo0.out]; omega) (by rw [HZ1.out, hlo0.out]; omega) (fun W hr0 hg2 => ?_)
            have hr : RowAt W gB (c.enc.take cap ++ Z.data.toList ++ c.enc.drop (cap + Z.size)) := by
              have z0 : Z.data.toList = [] := by rw [HZ.out, hlo0.out]; rfl
              have z1 : Z.size = 0 := by rw [HZ1.out]; exact hlo0.out
              rw [z0, z1] at hr0 ⊢
              simpa using hr0
            have HA7 := Lib.hid (Fin.out _ _ HAx.out HGx.out hg2 hr)
            have HG7 := Lib.hid (grown_trans HGx.out hg2)
            have V7 := hg2.cell (a := ⟨w.heap.size, 0, none⟩) HVx.out (by simp; omega)
            clear hr hr0 hg2
            go_wp2_with fail
            refine (GQ.out _ HA7.out).mono ?_
            rintro e w8 ⟨rfl, h8⟩
            have HA8 := Lib.hid (HA7.out.below h8)
            have HG8 := Lib.hid (grown_trans HG7.out (grown_below _ h8))
            clear h8
            go_wp2_with fail
            go_ret
            exact ⟨rfl, HA8.out, HG8.out⟩
          · have hcc1 : ¬ (F : Int) = (cap : Int) := by omega
            clear own'
            refine wp_region_ext_tail w6.heap.size 13 (by kernel_rfl) (by kernel_rfl) ?_
            simp only [List.take_succ_cons, List.take_zero, List.drop_succ_cons, List.drop_zero]
            repeat (go_big_quiet_step (first | (go_at_call 173; exact ext_call _ (Nat.le_refl _) (LW.out _ (HA6.out.below (Ext.below _)))) | (go_at_call 191; exact ext_call _ (Nat.le_refl _) (RP.out _))))
            refine wpQuiet_nil ?_
            rintro _ ⟨X, rfl⟩
            have hX := X.below
            generalize X.val = wx at hX
            have HAx := Lib.hid (HA6.out.below hX)
            have HVx := Lib.hid (keep_cell hX HV6.out)
            have HGx := Lib.hid (grown_trans HG6.out (grown_below _ hX))
            clear c0 c1 hX
            go_wp2_with fail
            refine upon_copy HAx.out.area.row 70 9 _ 5 Z Try.underlying70 (by kernel_rfl) (by rw [HZ1.out]; exact Nat.le_refl _) Hfl.out (fun W hr hg2 => ?_)
            have HA7 := Lib.hid (Fin.out _ _ HAx.out HGx.out hg2 hr)
            have HG7 := Lib.hid (grown_trans HGx.out hg2)
            have V7 := hg2.cell (a := ⟨w.heap.size, 0, none⟩) HVx.out (by simp; omega)
            clear hr hg2
            go_wp2_with fail
            refine (GQ.out _ HA7.out).mono ?_
            rintro e w8 ⟨rfl, h8⟩
            have HA8 := Lib.hid (HA7.out.below h8)
            have HG8 := Lib.hid (grown_trans HG7.out (grown_below _ h8))
            clear h8
            go_wp2_with fail
            go_ret
            exact ⟨rfl, HA8.out, HG8.out⟩

end Go.Proofs.Ytienlhnbmobinaa
