/- The document's area: Compact. -/
import Derived.Test.YtienlhnbmobinaaRows
import Derived.Test.YtienlhnbmobinaaRefRoot
import Derived.Test.YtienlhnbmobinaaSlotRoot
import Derived.Test.YtienlhnbmobinaaSlotCompact
import Derived.Test.YtienlhnbmobinaaBase
import Derived.WalkKit
import Derived.WalkLawsBesides
import Derived.WalkSpells
import Derived.LoopTactic
import Derived.WalkMore
import Derived.LoopN
import Derived.Laws.BitsAllLaws
import Derived.Laws.IdiomStrings
import Derived.BigQuiet
import Derived.Deep.QuietTactic
import Derived.Deep.DeepCutAuto
import Derived.Deep.RegionHeld3
import Derived.Deep.DrawnRows
import Derived.Lib.Hide
import Derived.Outline
import Derived.Deep.DeepMust
import Derived.Handy
namespace Go.Proofs.Ytienlhnbmobinaa
open Go.RowKit
set_option linter.unusedVariables false
set_option linter.unusedSimpArgs false

theorem zeros_step (B : List UInt8) (i : Nat) (h : i < B.length) : (List.replicate i (0 : UInt8) ++ B.drop i).set i 0 = List.replicate (i + 1) 0 ++ B.drop (i + 1) := by
  rw [List.set_append_right _ _ (by simp), List.length_replicate, Nat.sub_self, List.drop_eq_getElem_cons h, List.set_cons_zero, List.replicate_succ', List.append_assoc]
  rfl
theorem cell_set_far2 {w : World} {q : Addr} {v : Value} {x j k : Nat} {u u2 : Value} (h : w.cell? q = some v) (hne : q.block ≠ x) : ((w.setCell ⟨x, j, none⟩ u).setCell ⟨x, k, none⟩ u2).drew.cell? q = some v :=
  cell_set_far (w := w.setCell ⟨x, j, none⟩ u) (cell_set_far h hne) hne

set_option maxHeartbeats 4000000 in
set_option maxRecDepth 100000 in
theorem refCompact_any (g gB cap : Nat) (v : Value) (a : Ar) (w : World) (hg : a.Good) (h : RefAt w g gB cap v a) :
    Calls Try.prog 168 #[.pointer (some ⟨g, 0, none⟩)] w fun e w' => e = .returned (.int .i64 (a.compact.gap - a.gap)) ∧ RefAt w' g gB cap v a.compact ∧ OthersKept w w' (refOwn g gB v) := by
  have hf := hg.fit
  have hn := hf.n
  have GP := Lib.hid fun W (hW : Below w.heap.size w W) => refGap_any g gB cap v a W hf (h.below hW)
  have TX := Lib.hid fun k (hk : k < a.L.length) W (hW : Below w.heap.size w W) => refText_any g gB cap k v a W hg hk (h.below hW)
  have Ht : Hid (a.texts.length = a.L.length) := by show _ = _; simp [Ar.texts]
  have hfar := Lib.hid h.far
  obtain ⟨b, cp, rfl, hcp, hcm, hbb⟩ := dir_form h.dir
  have Hbb := Lib.hid hbb
  have HW := Lib.hid h
  have hglt := blk_lt h.own
  have hgBlt := h.row.lt
  unfold maxLen at hcm
  obtain ⟨i0, hi, hz0, hz1, hz2⟩ := info_parts (P := Try.prog) (e := 9) (z := .string ⟨#[]⟩) (size := 1) (bytes := 16) (by kernel_rfl)
  clear h hbb
  go_enter Try.func168, Try.ntmps168
  go_wp2_with fail
  refine (GP.out _ (Below.refl _ _)).mono ?_
  rintro e w1 ⟨rfl, h1⟩
  have HB1 := Lib.hid h1
  clear h1
  go_wp2_with fail
  go_loopw [4, 5] (fun s4 s5 wr => ∃ j : Nat, j ≤ a.L.length ∧ s5 = .int .i64 j ∧ wr.ownsRow w.heap.size 9 1 s4 j (strs (a.texts.take j)) ∧ Below w.heap.size w wr) (fun _ i _ => a.L.length - (intOf i).toNat)
  case atStart => exact ⟨0, Nat.zero_le _, rfl, by simpa [strs] using World.ownsRow_nil _ _ _ _, HB1.out⟩
  case round =>
    obtain ⟨j, hj, rfl, hown, hB⟩ := hrel
    have HB := Lib.hid hB
    have HO := Lib.hid hown
    have c2 := (HW.out.below hB).c2
    clear hB hown HB1
    by_cases hc : j < a.L.length
    · have TT := Lib.hid (TX.out j hc)
      go_wp2_with fail
      refine (TT.out _ HB.out).mono ?_
      rintro e w4 ⟨rfl, h4⟩
      have HB4 := Lib.hid (below_then HB.out h4)
      have HO4 := Lib.hid (own_below HO.out h4)
      have hz4 := HB4.out.size
      have hjt : j < a.texts.length := by rw [Ht.out]; exact hc
      have Hs : Hid (strs (a.texts.take j) ++ [.string ⟨(a.text a.L[j]).toArray⟩] = strs (a.texts.take (j + 1))) := by
        show _ = _
        rw [strs_snoc _ _ hjt]
        simp [Ar.texts]
      generalize a.text a.L[j] = T at *
      clear h4
      go_wp2_with (at_builtin; refine wpList_append_own _ rfl _ _ 24 rfl w.heap.size 9 i0 (.string ⟨#[]⟩) 1 16 Try.underlying24 hi hz0 hz1 hz2 rfl (by decide) _ _ _ (by rfl) (HO4.out.alloc _) ⟨w4.heap.size, 0, none⟩ 1 1 [.string ⟨T.toArray⟩] (by rfl) rfl (one_new _ _ _) (one_str _) (by unfold maxLen; omega) (by omega) (by simp; omega) ?_; intro v' w5 hown5 hgrow5 _)
      have HB5 := Lib.hid (below_own (HB4.out.alloc (by omega) (.cells #[.string ⟨T.toArray⟩] 9)) (HO4.out.alloc _) (by omega) hgrow5)
      rw [Hs.out] at hown5
      have HO5 := Lib.hid hown5
      clear hown5 hgrow5
      go_wp2_with fail
      go_roundw
      case rel => exact ⟨j + 1, by omega, by go_num, HO5.out, HB5.out⟩
      case measure => simp [intOf]; omega
    · obtain rfl : j = a.L.length := by omega
      obtain ⟨b4, cp4, rfl, hcp4, hcm4, hb4⟩ := own_form HO.out
      have hb4' := Lib.hid hb4
      clear hb4
      unfold maxLen at hcm4
      have c0 := (HW.out.below HB.out).c0
      have f1 := blk_frozen (HW.out.below HB.out).own 1
      have c1 := (HW.out.below HB.out).c1
      have HA := Lib.hid ((HW.out.below HB.out).set_low a.B.length)
      have HO1 := Lib.hid (own_far (g := g) HO.out (grown_set (i := 1) (u := .int .i64 a.B.length) (grown_refl _ g)) hglt)
      have HK1 : Hid (OthersKept w (wr.setCell ⟨g, 1, none⟩ (.int .i64 a.B.length)) (refOwn g gB (.slice b a.L.length cp))) :=
        (OthersKept.of_below HB.out).trans (OthersKept.of_grown (p := fun k => k = g) (grown_set (grown_refl _ g)) rfl) (fun k _ h => .inl h)
      go_wp2_with fail
      clear c0 c1 f1 c2
      go_loopw [6] (fun s6 wr2 => ∃ j : Nat, j ≤ a.L.length ∧ s6 = .int .i64 j ∧ wr2.ownsRow w.heap.size 9 1 (.slice b4 a.L.length cp4) a.L.length (strs (a.texts.take a.L.length)) ∧ RefAt wr2 g gB cap (.slice b a.L.length cp) (({ a with low := a.B.length } : Ar).stands a.texts j) ∧ OthersKept w wr2 (refOwn g gB (.slice b a.L.length cp))) (fun i _ => a.L.length - (intOf i).toNat)
      case atStart => exact ⟨0, Nat.zero_le _, rfl, HO1.out, HA.out, HK1.out⟩
      case round =>
        obtain ⟨j, hj2, rfl, hown, hA, hK⟩ := hrel
        have HO := Lib.hid hown
        have HA := Lib.hid hA
        have HK := Lib.hid hK
        have ST := Lib.hid (Stood.all a a.texts Ht.out hg.texts_fit j hj2)
        have c2 := HA.out.c2
        clear hown hA hK HO1 HK1
        by_cases hc2 : j < a.L.length
        · obtain ⟨g4, rfl, hg4⟩ := hb4'.out (by omega)
          obtain ⟨gd, rfl⟩ := Hbb.out (by omega)
          have hjt : j < a.texts.length := by rw [Ht.out]; exact hc2
          have t0 := own_cell HO.out j (.string ⟨(a.texts[j]'hjt).toArray⟩) (by
            unfold strs
            rw [List.take_of_length_le (by rw [Ht.out]; exact Nat.le_refl _), List.getElem?_map, List.getElem?_eq_getElem hjt]
            rfl)
          have hgd : a.texts.getD j [] = a.texts[j] := by simp [List.getD_eq_getElem?_getD, hjt]
          have hroom := ST.out.room hg.texts_fit hjt
          have hfit := Stood.fit hg ST.out
          rw [hgd] at hroom
          have hst : Hid ((({ a with low := a.B.length } : Ar).stands a.texts j).stand j (⟨(a.texts[j]'hjt).toArray⟩ : ByteArray).data.toList = ({ a with low := a.B.length } : Ar).stands a.texts (j + 1)) := by
            show _ = ((({ a with low := a.B.length } : Ar).stands a.texts j).stand j (a.texts.getD j []))
            rw [hgd]
          have hcn := ST.out.cnt
          have hclen := Lib.hid ST.out.len
          generalize (a.texts[j]'hjt) = T at *
          generalize ({ a with low := a.B.length } : Ar).stands a.texts j = c at *
          have hsz : (⟨T.toArray⟩ : ByteArray).size = T.length := by simp [ByteArray.size]
          obtain ⟨lo, hlo⟩ : ∃ x, x = c.low - T.length := ⟨_, rfl⟩
          have BL : Hid (∀ W, RefAt W g gB cap (.slice (some ⟨gd, 0, none⟩) a.L.length cp) c → Calls Try.prog 169 #[.pointer (some ⟨g, 0, none⟩), .string ⟨T.toArray⟩] W fun e w' => e = .returned (.agg #[.int .i64 (lo : Int), .int .i64 (T.length : Nat)]) ∧ RefAt w' g gB cap (.slice (some ⟨gd, 0, none⟩) a.L.length cp) (c.below T) ∧ OthersKept W w' (fun k => k = g ∨ k = gB)) := by
            show ∀ W, _
            intro W hW
            have := refBelow_any g gB cap (.slice (some ⟨gd, 0, none⟩) a.L.length cp) c ⟨T.toArray⟩ W hfit.1 (by omega) hW
            rw [hsz, ← hlo] at this
            exact this
          have Hlo := Lib.hid hlo
          clear hlo
          have HL := Lib.hid hcn
          have Hsz := Lib.hid hsz
          have Hgd := Lib.hid hgd
          clear hroom hfit hgd hcn hsz
          have j1 : (0 : Int) ≤ (j : Int) := by omega
          have j2 : (j : Int) < (a.L.length : Int) := by omega
          go_wp2_with fail
          refine (BL.out _ HA.out).mono ?_
          rintro e w6 ⟨rfl, hA6, hk6⟩
          have HK6 := Lib.hid (HK.out.trans hk6 (fun k _ h => by rcases h with h | h <;> simp [refOwn, h]))
          have HA6 := Lib.hid hA6
          have HO6 : Hid (w6.ownsRow w.heap.size 9 1 (.slice (some ⟨g4, 0, none⟩) a.L.length cp4) a.L.length (strs (a.texts.take a.L.length))) := by
            show w6.ownsRow _ _ _ _ _ _
            exact hk6.owns HO.out (fun k hk => by have := (HO.out.lt k hk).1; omega)
          have HB6 : Hid (Below w6.heap.size w6 (w6.alloc (.cells #[.int .i64 (lo : Int), .int .i64 (T.length : Nat)] 192))) := (Below.refl _ _).alloc (Nat.le_refl _) _
          have HA7 := Lib.hid (HA6.out.below HB6.out)
          have HO7 := Lib.hid (own_below HO6.out HB6.out)
          have HK7 := Lib.hid (HK6.out.trans (OthersKept.of_below (p := fun _ => False) HB6.out) (fun _ _ h => absurd h id))
          have b7 := heap_alloc_new w6 (.cells #[.int .i64 (lo : Int), .int .i64 (T.length : Nat)] 192)
          have hltd := (HA6.out.dir.lt gd rfl).2
          have n2 : Hid (w6.heap.size ≠ gd) := by show _ ≠ _; omega
          have hmn : Hid (w.heap.size ≤ w6.heap.size) := HK6.out.size
          clear hA6 hk6 c2 t0 HB6 HO6 HK6 HA6
          go_wp2_with fail
          generalize w6.alloc (.cells #[.int .i64 (lo : Int), .int .i64 (T.length : Nat)] 192) = w7 at *
          have HL7 : Hid ((c.below T).L.length = a.L.length) := HL.out
          have q0 : w7.cell? ⟨w6.heap.size, 0, none⟩ = some (.int .i64 (lo : Int)) := by rw [blk_cell b7 0]; rfl
          have q1 : w7.cell? ⟨w6.heap.size, 1, none⟩ = some (.int .i64 (T.length : Nat)) := by rw [blk_cell b7 1]; rfl
          have c26 := HA7.out.c2
          have e26 := ext_cell c26 (cell_lt c26)
          have e0 := ext_cell q0 (cell_lt q0)
          have e1 := ext_cell q1 (cell_lt q1)
          clear c26 q0 q1
          generalize w6.heap.size = b6 at *
          refine wp_region_ext_tail w7.heap.size 7 (by kernel_rfl) (by kernel_rfl) ?_
          simp only [List.take_succ_cons, List.take_zero, List.drop_succ_cons, List.drop_zero]
          repeat (go_big_quiet_step (fail))
          refine wpQuiet_nil ?_
          rintro _ ⟨X, rfl⟩
          have hX := X.below
          generalize X.val = wx at hX
          have HAx := Lib.hid (HA7.out.below hX)
          have HOx := Lib.hid (own_below HO7.out hX)
          have HKx := Lib.hid (HK7.out.trans (OthersKept.of_below (p := fun _ => False) hX) (fun _ _ h => absurd h id))
          have hjc : j < (c.below T).L.length := by rw [HL7.out]; exact hc2
          have HDx : Hid (wx.ownsRow 0 192 2 (.slice (some ⟨gd, 0, none⟩) (c.below T).L.length cp) (c.below T).L.length (places (c.below T).L)) := by
            have := HAx.out.dir
            show World.ownsRow _ _ _ _ _ _ _
            rw [HL7.out]
            rw [HL7.out] at this
            exact this
          have d0 := dir_cell HDx.out (j * 2) _ (places_from _ j hjc)
          have d1 := dir_cell HDx.out (j * 2 + 1) _ (places_size _ j hjc)
          obtain ⟨curd, hbd⟩ : ∃ cs : Array Value, wx.heap[gd]? = some (.cells cs 192 (0, 0)) := by
            rcases HAx.out.dir.2 with ⟨h, _⟩ | ⟨g', _, cur, h, _, hb, _⟩
            · cases h
            · injection h with h1 _ _; injection h1 with h1; injection h1 with h1 _ _; subst h1; exact ⟨cur, hb⟩
          have fr0 := blk_frozen hbd (j * 2)
          have fr1 := blk_frozen hbd (j * 2 + 1)
          generalize (c.below T).L[j].1 = x0 at d0
          generalize (c.below T).L[j].2 = x1 at d1
          have HR := Lib.hid ((show RefAt wx g gB cap (.slice (some ⟨gd, 0, none⟩) (c.below T).L.length cp) (c.below T) by rw [HL7.out]; exact HAx.out).set_dir j (lo, T.length) hjc)
          clear hX HA7 HO7 HK7 e26 e0 e1 hbd b7 hjc
          go_wp2_with fail
          go_roundw
          case rel =>
            have hr := HR.out
            have e2 : ({ c.below T with L := (c.below T).L.set j (lo, T.length) } : Ar) = ({ a with low := a.B.length } : Ar).stands a.texts (j + 1) := by rw [Hlo.out]; exact hst.out
            rw [List.length_set, HL7.out, e2] at hr
            have hgs : OthersKept wx ((wx.setCell ⟨gd, j * 2, none⟩ (.int .i64 (lo : Nat))).setCell ⟨gd, j * 2 + 1, none⟩ (.int .i64 (T.length : Nat))) (fun k => k = gd) := OthersKept.of_grown (g := gd) (grown_set (grown_set (grown_refl _ gd))) rfl
            refine ⟨j + 1, by omega, by go_num, hgs.owns HOx.out (fun k hk he => ?_), hr, HKx.out.trans hgs (fun k _ h => .inr (.inr (by rw [h]; rfl)))⟩
            have h1 := (HOx.out.lt k hk).1
            have h2 := (HW.out.dir.lt gd rfl).2
            omega
          case measure => simp [intOf]; omega
        · obtain rfl : j = a.L.length := by omega
          have hS := ST.out
          have hfit := Stood.fit hg hS
          have hcl := hS.len
          have hC : Hid (a.compact = { ({ a with low := a.B.length } : Ar).stands a.texts a.L.length with B := List.replicate (({ a with low := a.B.length } : Ar).stands a.texts a.L.length).low 0 ++ (({ a with low := a.B.length } : Ar).stands a.texts a.L.length).B.drop (({ a with low := a.B.length } : Ar).stands a.texts a.L.length).low }) := rfl
          generalize ({ a with low := a.B.length } : Ar).stands a.texts a.L.length = c at *
          obtain ⟨hcf, hfin⟩ := hfit
          have hk := hg.compact
          have hcg := hk.1.fit
          have GQ := Lib.hid fun W hW => refGap_any g gB cap (.slice b a.L.length cp) a.compact W hcg hW
          have g1 : 0 ≤ a.gap ∧ a.gap ≤ 4096 := by have := hf.f; have := hf.l; have := hf.hi; unfold Ar.gap; omega
          have g2 : 0 ≤ a.compact.gap ∧ a.compact.gap ≤ 4096 := by have := hcg.f; have := hcg.l; have := hcg.hi; unfold Ar.gap; omega
          have g3 : IntKind.i64.wrap (a.compact.gap - a.gap) = a.compact.gap - a.gap := IntWalk.i64_in _ ⟨by omega, by omega⟩
          have hcll := hcf.l
          have hclh := hcf.hi
          clear hS ST hk hcg TX GP HW HO
          go_wp2_with fail
          go_loopw [8] (fun s8 wr3 => ∃ i : Nat, i ≤ c.low ∧ s8 = .int .i64 i ∧ RefAt wr3 g gB cap (.slice b a.L.length cp) { c with B := List.replicate i 0 ++ c.B.drop i } ∧ OthersKept w wr3 (refOwn g gB (.slice b a.L.length cp))) (fun i _ => c.low - (intOf i).toNat)
          case atStart => exact ⟨0, Nat.zero_le _, rfl, HA.out, HK.out⟩
          case round =>
            obtain ⟨i, hi3, rfl, hA3, hK3⟩ := hrel
            have HA3 := Lib.hid hA3
            have HK3 := Lib.hid hK3
            have c1 := hA3.c1
            simp only at c1
            clear hA3 hK3 HA HK
            have hlen : (List.replicate i (0 : UInt8) ++ c.B.drop i).length = a.B.length := by simp; omega
            by_cases hc3 : i < c.low
            · have c0 := HA3.out.c0
              simp only at c0
              rw [hlen] at c0
              have hrow : RowAt wr gB (List.replicate i 0 ++ c.B.drop i) := HA3.out.row
              have hf := hrow.frozen i (by omega)
              have hcx := hrow.cell i (by omega)
              have HT : Hid ((List.replicate i (0 : UInt8) ++ c.B.drop i).set i 0 = List.replicate (i + 1) 0 ++ c.B.drop (i + 1)) := by
                show _ = _
                exact zeros_step c.B i (by omega)
              have HS := Lib.hid (HA3.out.set_byte i 0 (by simp only; omega))
              generalize (((List.replicate i (0 : UInt8) ++ c.B.drop i)[i]'(by omega)).toNat : Int) = qq at hcx
              clear hrow
              have hqx : ((i : Nat) : Int) < (a.B.length : Int) := by omega
              have hqz : ¬ ((i : Nat) : Int) < 0 := by omega
              go_wp2_with fail
              go_roundw
              case rel =>
                have hr2 := HS.out
                simp only at hr2
                rw [HT.out] at hr2
                exact ⟨i + 1, by omega, by go_num, hr2, HK3.out.trans (OthersKept.of_grown (p := fun k => k = gB) (g := gB) (grown_set (grown_refl _ gB)) rfl) (fun k _ h => .inr (.inl h))⟩
              case measure => simp [intOf]; omega
            · obtain rfl : i = c.low := by omega
              have hAc : RefAt wr g gB cap (.slice b a.L.length cp) a.compact := by rw [hC.out]; exact HA3.out
              have HAc := Lib.hid hAc
              clear hAc HA3
              go_wp2_with fail
              refine (GQ.out _ HAc.out).mono ?_
              rintro e w8 ⟨rfl, h8⟩
              have HAe := Lib.hid (HAc.out.below h8)
              have HKe := Lib.hid (HK3.out.trans (OthersKept.of_below (p := fun _ => False) h8) (fun _ _ h => absurd h id))
              clear h8
              go_wp2_with fail
              go_ret
              exact ⟨rfl, HAe.out, HKe.out⟩

end Go.Proofs.Ytienlhnbmobinaa
