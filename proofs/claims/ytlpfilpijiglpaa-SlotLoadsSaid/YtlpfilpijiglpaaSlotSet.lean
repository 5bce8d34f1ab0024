/- A text of an area is set -/
import Derived.Test.YtlpfilpijiglpaaRows
import Derived.Test.YtlpfilpijiglpaaSlotCompact
import Derived.Test.YtlpfilpijiglpaaCloneBytes
import Derived.Test.YtlpfilpijiglpaaCopyStep
import Derived.WalkKit
import Derived.WalkLawsBesides
import Derived.WalkSpells
import Derived.LoopTactic
import Derived.WalkMore
import Derived.LoopN
import Derived.Laws.BitsAllLaws
import Derived.Laws.IdiomStrings
import Derived.BigQuiet
import Derived.Deep.QuietTactic
import Derived.Deep.DeepCutAuto
import Derived.Deep.RegionHeld3
import Derived.Deep.DrawnRows
import Derived.Lib.Hide
import Derived.Outline
import Derived.Deep.DeepMust
import Derived.Handy
namespace Go.Proofs.Ytlpfilpijiglpaa
open Go.RowKit
set_option linter.unusedVariables false
set_option linter.unusedSimpArgs false

theorem Ar.Good.long_room {a : Ar} (h : a.Good) (k : Nat) (hk : k < a.L.length) (n : Nat) (hf : (n : Int) - (a.L[k].2 : Int) ≤ a.free) :
    ({ a with L := a.L.set k (a.L[k].1, 0) } : Ar).Good ∧ ({ a with L := a.L.set k (a.L[k].1, 0) } : Ar).compact.Good ∧ k < ({ a with L := a.L.set k (a.L[k].1, 0) } : Ar).compact.L.length ∧
    ({ a with L := a.L.set k (a.L[k].1, 0) } : Ar).compact.fin + n ≤ ({ a with L := a.L.set k (a.L[k].1, 0) } : Ar).compact.low := by
  have hs := h.shrink k a.B [] hk (Nat.zero_le _) (putAt_nil _ _).symm
  simp only [List.length_nil] at hs
  have hsum := set_sum a.L k (a.L[k].1, 0) hk
  have hb1 : ({ a with L := a.L.set k (a.L[k].1, 0) } : Ar).L.length = a.L.length := by simp
  have hb3 : ({ a with L := a.L.set k (a.L[k].1, 0) } : Ar).sum + a.L[k].2 = a.sum := hsum
  have hb2 : ({ a with L := a.L.set k (a.L[k].1, 0) } : Ar).B.length = a.B.length := rfl
  generalize ({ a with L := a.L.set k (a.L[k].1, 0) } : Ar) = b at *
  obtain ⟨h1, h2, h3, h4, h5⟩ := hs.1.compact
  exact ⟨hs.1, h1, by omega, by unfold Ar.free at hf; unfold Ar.fin at *; omega⟩

set_option maxHeartbeats 2000000 in
set_option maxRecDepth 100000 in
theorem setA_no (gA gB cap : Nat) (k : Int) (a : Ar) (s : ByteArray) (w : World) (hg : a.Good) (hk : ¬ (0 ≤ k ∧ k < (a.L.length : Int))) (h : ArAt w gA gB cap a) :
    Calls Try.prog 22 #[.pointer (some ⟨gA, 0, none⟩), .int .i64 k, .string s] w fun e w' => e = .returned (.int .i64 3) ∧ Below w.heap.size w w' := by
  have R0 := fun W hW => thereA gA gB cap k a W hg.fit hW
  rw [if_neg hk] at R0
  have R := Lib.hid R0
  have H := Lib.hid h
  clear R0 h hk
  go_enter Try.func22, Try.ntmps22
  go_wp2_with fail
  refine (R.out _ H.out).mono ?_
  rintro e w1 ⟨rfl, h1⟩
  go_wp2_with fail
  go_ret
  exact ⟨rfl, h1⟩

set_option maxHeartbeats 4000000 in
set_option maxRecDepth 100000 in
theorem setA_yes (gA gB cap k : Nat) (a : Ar) (s : ByteArray) (w : World) (hg : a.Good) (hs : s.size ≤ 100000) (hk : k < a.L.length) (h : ArAt w gA gB cap a) :
    Calls Try.prog 22 #[.pointer (some ⟨gA, 0, none⟩), .int .i64 k, .string s] w fun e w' => e = .returned (.int .i64 (a.set k s.data.toList).2) ∧ ArAt w' gA gB cap (a.set k s.data.toList).1 ∧ w.grownBy w' (some gB) := by
  have hf := hg.fit
  have hn := hf.n
  have hsl : s.data.toList.length = s.size := by simp
  have R0 := fun W hW => thereA gA gB cap (k : Int) a W hf hW
  rw [if_pos (by omega)] at R0
  have hin := hg.inn _ (List.getElem_mem hk)
  have hin2 := hg.inn2 (List.getElem_mem hk)
  have hgd : a.L.getD k (0, 0) = a.L[k] := by simp [List.getD_eq_getElem?_getD, hk]
  have EN := Lib.hid fun W (hW : ArAt W gA gB cap a) => entryA gA gB cap k a W hf hk hin2.1 hin2.2 hW
  have R := Lib.hid R0
  have GP := Lib.hid fun W hW => gapA gA gB cap a W hf hW
  have FR := Lib.hid fun W hW => freeA gA gB cap a W hg hW
  have hset : Hid (a.set k s.data.toList = if s.data.toList.length ≤ a.L[k].2 then (a.short k s.data.toList, 0) else if a.free < (s.data.toList.length : Int) - a.L[k].2 then (a, 4) else (a.long k s.data.toList, 0)) := by
    show _ = _
    unfold Ar.set
    rw [if_neg (by omega), Int.toNat_natCast, hgd]
  have H := Lib.hid h
  have hroomC := h.room
  have b1 := hf.l
  have b2 := hf.hi
  have b3 := hf.f
  clear R0 h
  by_cases h1 : s.size ≤ a.L[k].2
  · have hres : Hid (a.set k s.data.toList = ({ ({ a with B := putAt a.B a.L[k].1 s.data.toList } : Ar) with L := a.L.set k (a.L[k].1, s.size) }, 0)) := by
      show _ = _
      rw [hset.out, if_pos (by rw [hsl]; exact h1)]
      unfold Ar.short
      rw [hgd, hsl]
    have hpl : (putAt a.B a.L[k].1 s.data.toList).length = a.B.length := putAt_len (by omega)
    have hf2 : ({ a with B := putAt a.B a.L[k].1 s.data.toList } : Ar).Fit := ⟨by rw [hpl]; exact hf.lo, by rw [hpl]; exact b2, b3, by rw [hpl]; exact b1⟩
    have he : putAt a.enc a.L[k].1 s.data.toList = ({ a with B := putAt a.B a.L[k].1 s.data.toList } : Ar).enc := a.put_at _ _ (by omega) (by omega)
    have PL := Lib.hid fun W (hW : ArAt W gA gB cap ({ a with B := putAt a.B (a.L[k]'hk).1 s.data.toList } : Ar)) => placeA gA gB cap k a.L[k].1 s.size ({ a with B := putAt a.B a.L[k].1 s.data.toList } : Ar) W hf2 hk (by omega) (by omega) hW
    have hel := hf.len
    have Fin := Lib.hid fun (W W2 : World) (hA : ArAt W gA gB cap a) (hg2 : W.grownBy W2 (some gB)) (hr : RowAt W2 gB (a.enc.take a.L[k].1 ++ s.data.toList ++ a.enc.drop (a.L[k].1 + s.data.toList.length))) => (show ArAt W2 gA gB cap ({ a with B := putAt a.B a.L[k].1 s.data.toList } : Ar) from by
      have hr' : RowAt W2 gB ({ a with B := putAt a.B a.L[k].1 s.data.toList } : Ar).enc := by rw [← he]; exact hr
      exact ⟨hA.area.grown hg2 hr' (by rw [hf2.len, hel, hpl]), by rw [hpl]; exact hroomC⟩)
    have hle := hel
    have Hel := Lib.hid hel
    rw [hsl] at Fin
    clear he hf2 hpl hgd hset hel hle
    have hin1 := hin.1
    have hin3 := hin.2
    clear hin
    generalize a.L[k].1 = F at *
    generalize a.L[k].2 = Z at *
    have q1 : (0 : Int) ≤ (F : Int) := by omega
    have q2 : (F : Int) ≤ (a.B.length : Int) := by omega
    rw [hres.out]
    go_enter Try.func22, Try.ntmps22
    go_wp2_with fail
    refine (R.out _ H.out).mono ?_
    rintro e w1 ⟨rfl, h1⟩
    have HA1 := Lib.hid (H.out.below h1)
    have HB1 := Lib.hid h1
    clear h1
    go_wp2_with fail
    refine (EN.out _ HA1.out).mono ?_
    rintro e w2 ⟨rfl, h2⟩
    have HA2 := Lib.hid (HA1.out.below h2)
    have HB2 := Lib.hid (below_then HB1.out h2)
    clear h2
    have own2 : w2.cell? ⟨gA, 0, none⟩ = some (.slice (some ⟨gB, 0, none⟩) a.B.length cap) := by rw [← Hel.out, blk_cell HA2.out.area.own]; rfl
    go_wp2_with fail
    · have z0 : s.size = 0 := by omega
      have z1 : s.data.toList = [] := List.length_eq_zero_iff.1 (by omega)
      have Z0 := Lib.hid z0
      have Z1 := Lib.hid z1
      clear z0 z1
      refine upon_copy (k := 0) HA2.out.area.row 38 9 _ 5 s Try.underlying38 (by kernel_rfl) (by rw [Z0.out]; exact Nat.zero_le _) (by rw [Z0.out]; exact Nat.zero_le _) (fun w3 hr0 hg3 => ?_)
      have hr3 : RowAt w3 gB (a.enc.take F ++ s.data.toList ++ a.enc.drop (F + s.size)) := by
        rw [Z1.out, Z0.out] at hr0 ⊢
        simpa using hr0
      clear hr0
      have HA3 := Lib.hid (Fin.out _ _ HA2.out hg3 hr3)
      have HG3 := Lib.hid (grown_step HB2.out hg3)
      clear hr3 hg3
      go_wp2_with fail
      refine (PL.out _ HA3.out).mono ?_
      rintro e w4 ⟨rfl, hA4, hg4⟩
      have HA4 := Lib.hid hA4
      have HG4 := Lib.hid (grown_trans HG3.out hg4)
      clear hA4 hg4
      go_wp2_with fail
      go_ret
      exact ⟨rfl, HA4.out, HG4.out⟩
    · refine upon_copy HA2.out.area.row 38 9 _ 5 s Try.underlying38 (by kernel_rfl) (by omega) (by rw [Hel.out]; omega) (fun w3 hr3 hg3 => ?_)
      have HA3 := Lib.hid (Fin.out _ _ HA2.out hg3 hr3)
      have HG3 := Lib.hid (grown_step HB2.out hg3)
      clear hr3 hg3
      go_wp2_with fail
      refine (PL.out _ HA3.out).mono ?_
      rintro e w4 ⟨rfl, hA4, hg4⟩
      have HA4 := Lib.hid hA4
      have HG4 := Lib.hid (grown_trans HG3.out hg4)
      clear hA4 hg4
      go_wp2_with fail
      go_ret
      exact ⟨rfl, HA4.out, HG4.out⟩
  · by_cases h2 : a.free < (s.size : Int) - a.L[k].2
    · have hres : Hid (a.set k s.data.toList = (a, 4)) := by
        show _ = _
        rw [hset.out, if_neg (by rw [hsl]; exact h1), if_pos (by rw [hsl]; exact h2)]
      have w1 : IntKind.i64.wrap ((s.size : Int) - (a.L[k].2 : Int)) = (s.size : Int) - (a.L[k].2 : Int) := IntWalk.i64_in _ ⟨by omega, by omega⟩
      clear hgd hset hin
      generalize a.L[k].1 = F at *
      generalize a.L[k].2 = Z at *
      rw [hres.out]
      go_enter Try.func22, Try.ntmps22
      go_wp2_with fail
      refine (R.out _ H.out).mono ?_
      rintro e w1 ⟨rfl, h1⟩
      have HA1 := Lib.hid (H.out.below h1)
      have HB1 := Lib.hid h1
      clear h1
      go_wp2_with fail
      refine (EN.out _ HA1.out).mono ?_
      rintro e w2 ⟨rfl, h2⟩
      have HA2 := Lib.hid (HA1.out.below h2)
      have HB2 := Lib.hid (below_then HB1.out h2)
      clear h2
      go_wp2_with fail
      refine (FR.out _ HA2.out).mono ?_
      rintro e w3 ⟨rfl, h3⟩
      have hA3 := HA2.out.below h3
      have hB3 := below_then HB2.out h3
      clear h3
      go_wp2_with fail
      go_ret
      exact ⟨rfl, hA3, grown_below _ hB3⟩
    · have hres : Hid (a.set k s.data.toList = (a.long k s.data.toList, 0)) := by
        show _ = _
        rw [hset.out, if_neg (by rw [hsl]; exact h1), if_neg (by rw [hsl]; exact h2)]
      have w1 : IntKind.i64.wrap ((s.size : Int) - (a.L[k].2 : Int)) = (s.size : Int) - (a.L[k].2 : Int) := IntWalk.i64_in _ ⟨by omega, by omega⟩
      have hlong := hg.long k s.data.toList hk (by rw [hgd, hsl]; omega)
      rw [hres.out]
      by_cases h3 : a.gap < (s.size : Int)
      · obtain ⟨hbg, hcg, hck, hcr⟩ := hg.long_room k hk s.size (by omega)
        have hL : Hid (a.long k s.data.toList = ({ a with L := a.L.set k (a.L[k].1, 0) } : Ar).compact.stand k s.data.toList) := by
          show _ = _
          unfold Ar.long
          rw [if_pos (by rw [hsl]; exact h3), hgd]
        have P0 := Lib.hid fun W (hW : ArAt W gA gB cap a) => placeA gA gB cap k (a.L[k]'hk).1 0 a W hf hk (by omega) (by omega) hW
        have CP := Lib.hid fun W (hW : ArAt W gA gB cap ({ a with L := a.L.set k ((a.L[k]'hk).1, 0) } : Ar)) => compactA gA gB cap _ W hbg hW
        clear hgd hset hin hlong hbg
        generalize hF : a.L[k].1 = F at *
        generalize a.L[k].2 = Z at *
        clear hF
        generalize ({ a with L := a.L.set k (F, 0) } : Ar) = b at *
        generalize hcc : b.compact = c at *
        have HCC := Lib.hid hcc
        clear hcc
        have hcf := hcg.fit
        have c1 := hcf.l
        have c2 := hcf.hi
        have BL := Lib.hid fun W (hW : ArAt W gA gB cap c) => belowA gA gB cap c s W hcf hcr hW
        have PL0 := fun W (hW : ArAt W gA gB cap (c.below s.data.toList)) => placeA gA gB cap k (c.low - s.size) s.size (c.below s.data.toList) W (hcf.below _ (by omega)) hck (by omega) (by omega) hW
        have hS : Hid (({ c.below s.data.toList with L := (c.below s.data.toList).L.set k (c.low - s.size, s.size) } : Ar) = c.stand k s.data.toList) := by show _ = _; rw [← hsl]; rfl
        have PL := Lib.hid PL0
        clear PL0
        go_enter Try.func22, Try.ntmps22
        go_wp2_with fail
        refine (R.out _ H.out).mono ?_
        rintro e w1 ⟨rfl, h1⟩
        have HA1 := Lib.hid (H.out.below h1)
        have HB1 := Lib.hid h1
        clear h1
        go_wp2_with fail
        refine (EN.out _ HA1.out).mono ?_
        rintro e w2 ⟨rfl, h2⟩
        have HA2 := Lib.hid (HA1.out.below h2)
        have HB2 := Lib.hid (below_then HB1.out h2)
        clear h2
        go_wp2_with fail
        refine (FR.out _ HA2.out).mono ?_
        rintro e w3 ⟨rfl, h4⟩
        have HA3 := Lib.hid (HA2.out.below h4)
        have HB3 := Lib.hid (below_then HB2.out h4)
        clear h4
        go_wp2_with fail
        refine (GP.out _ HA3.out).mono ?_
        rintro e w4 ⟨rfl, h5⟩
        have HA4 := Lib.hid (HA3.out.below h5)
        have HB4 := Lib.hid (below_then HB3.out h5)
        clear h5
        go_wp2_with fail
        refine (P0.out _ HA4.out).mono ?_
        rintro e w5 ⟨rfl, hA5, hg5⟩
        have HA5 := Lib.hid hA5
        have HG5 := Lib.hid (grown_step HB4.out hg5)
        clear hA5 hg5
        go_wp2_with fail
        refine (CP.out _ HA5.out).mono ?_
        rintro e w6 ⟨rfl, hA6, hg6⟩
        have HA6 := Lib.hid hA6
        have HG6 := Lib.hid (grown_trans HG5.out hg6)
        clear hA6 hg6
        go_wp2_with fail
        refine (BL.out _ HA6.out).mono ?_
        rintro e w7 ⟨rfl, hA7, hg7⟩
        have HA7 := Lib.hid hA7
        have HG7 := Lib.hid (grown_trans HG6.out hg7)
        clear hA7 hg7
        go_wp2_with fail
        refine (PL.out _ HA7.out).mono ?_
        rintro e w8 ⟨rfl, hA8, hg8⟩
        rw [hS.out] at hA8
        have HA8 := Lib.hid hA8
        have HG8 := Lib.hid (grown_trans HG7.out hg8)
        clear hA8 hg8
        go_wp2_with fail
        go_ret
        rw [hL.out]
        exact ⟨rfl, HA8.out, HG8.out⟩
      · have hL : Hid (a.long k s.data.toList = a.stand k s.data.toList) := by
          show _ = _
          unfold Ar.long
          rw [if_neg (by rw [hsl]; exact h3)]
        have hroom : a.fin + s.size ≤ a.low := by unfold Ar.gap at h3; omega
        have BL := Lib.hid fun W (hW : ArAt W gA gB cap a) => belowA gA gB cap a s W hf hroom hW
        have PL0 := fun W (hW : ArAt W gA gB cap (a.below s.data.toList)) => placeA gA gB cap k (a.low - s.size) s.size (a.below s.data.toList) W (hf.below _ (by omega)) hk (by omega) (by omega) hW
        have hS : Hid (({ a.below s.data.toList with L := (a.below s.data.toList).L.set k (a.low - s.size, s.size) } : Ar) = a.stand k s.data.toList) := by show _ = _; rw [← hsl]; rfl
        have PL := Lib.hid PL0
        clear PL0 hgd hset hin hlong
        generalize a.L[k].1 = F at *
        generalize a.L[k].2 = Z at *
        go_enter Try.func22, Try.ntmps22
        go_wp2_with fail
        refine (R.out _ H.out).mono ?_
        rintro e w1 ⟨rfl, h1⟩
        have HA1 := Lib.hid (H.out.below h1)
        have HB1 := Lib.hid h1
        clear h1
        go_wp2_with fail
        refine (EN.out _ HA1.out).mono ?_
        rintro e w2 ⟨rfl, h2⟩
        have HA2 := Lib.hid (HA1.out.below h2)
        have HB2 := Lib.hid (below_then HB1.out h2)
        clear h2
        go_wp2_with fail
        refine (FR.out _ HA2.out).mono ?_
        rintro e w3 ⟨rfl, h4⟩
        have HA3 := Lib.hid (HA2.out.below h4)
        have HB3 := Lib.hid (below_then HB2.out h4)
        clear h4
        go_wp2_with fail
        refine (GP.out _ HA3.out).mono ?_
        rintro e w4 ⟨rfl, h5⟩
        have HA4 := Lib.hid (HA3.out.below h5)
        have HB4 := Lib.hid (below_then HB3.out h5)
        clear h5
        go_wp2_with fail
        refine (BL.out _ HA4.out).mono ?_
        rintro e w5 ⟨rfl, hA5, hg5⟩
        have HA5 := Lib.hid hA5
        have HG5 := Lib.hid (grown_step HB4.out hg5)
        clear hA5 hg5
        go_wp2_with fail
        refine (PL.out _ HA5.out).mono ?_
        rintro e w6 ⟨rfl, hA6, hg6⟩
        rw [hS.out] at hA6
        have HA6 := Lib.hid hA6
        have HG6 := Lib.hid (grown_trans HG5.out hg6)
        clear hA6 hg6
        go_wp2_with fail
        go_ret
        rw [hL.out]
        exact ⟨rfl, HA6.out, HG6.out⟩

theorem setA (gA gB cap : Nat) (k : Int) (a : Ar) (s : ByteArray) (w : World) (hg : a.Good) (hs : s.size ≤ 100000) (h : ArAt w gA gB cap a) :
    Calls Try.prog 22 #[.pointer (some ⟨gA, 0, none⟩), .int .i64 k, .string s] w fun e w' => e = .returned (.int .i64 (a.set k s.data.toList).2) ∧ ArAt w' gA gB cap (a.set k s.data.toList).1 ∧ w.grownBy w' (some gB) := by
  by_cases hk : 0 ≤ k ∧ k < (a.L.length : Int)
  · obtain ⟨k, rfl⟩ := Int.eq_ofNat_of_zero_le hk.1
    exact setA_yes gA gB cap k a s w hg hs (by omega) h
  · refine (setA_no gA gB cap k a s w hg hk h).mono ?_
    rintro e w' ⟨rfl, hb⟩
    have e : a.set k s.data.toList = (a, 3) := by unfold Ar.set; rw [if_pos hk]
    rw [e]
    exact ⟨rfl, h.below hb, grown_below _ hb⟩

end Go.Proofs.Ytlpfilpijiglpaa
