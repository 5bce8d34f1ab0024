/- A text is put into an area -/
import Derived.Test.YtienlhnbmobinaaRows
import Derived.Test.YtienlhnbmobinaaSlotCompact
import Derived.Test.YtienlhnbmobinaaSlotRoot
import Derived.WalkKit
import Derived.WalkLawsBesides
import Derived.WalkSpells
import Derived.LoopTactic
import Derived.WalkMore
import Derived.LoopN
import Derived.Laws.BitsAllLaws
import Derived.Laws.IdiomStrings
import Derived.BigQuiet
import Derived.Deep.QuietTactic
import Derived.Deep.DeepCutAuto
import Derived.Deep.RegionHeld3
import Derived.Deep.DrawnRows
import Derived.Lib.Hide
import Derived.Outline
import Derived.Deep.DeepMust
import Derived.Handy
namespace Go.Proofs.Ytienlhnbmobinaa
open Go.RowKit
set_option linter.unusedVariables false
set_option linter.unusedSimpArgs false

theorem Ar.put_place (b : Ar) (k : Nat) (t : List UInt8) (x y : Nat) (hk : k ≤ b.L.length) :
    ({ ({ b.below t with L := (b.below t).L.take k ++ (x, y) :: (b.below t).L.drop k } : Ar) with L := ((b.below t).L.take k ++ (x, y) :: (b.below t).L.drop k).set k (b.low - t.length, t.length) } : Ar) = b.putIn k t := by
  have e : ((b.below t).L.take k ++ (x, y) :: (b.below t).L.drop k).set k (b.low - t.length, t.length) = b.L.take k ++ (b.low - t.length, t.length) :: b.L.drop k := by
    show (b.L.take k ++ (x, y) :: b.L.drop k).set k _ = _
    rw [List.set_append_right _ _ (by simp; omega)]
    simp [Nat.min_eq_left hk]
  rw [e]
  rfl

set_option maxHeartbeats 2000000 in
set_option maxRecDepth 100000 in
theorem putA (gA gB cap : Nat) (k : Int) (a : Ar) (s : ByteArray) (w : World) (hg : a.Good) (hs : s.size ≤ 100000) (h : ArAt w gA gB cap a) :
    Calls Try.prog 97 #[.pointer (some ⟨gA, 0, none⟩), .int .i64 k, .string s] w fun e w' => e = .returned (.int .i64 (a.put k s.data.toList).2) ∧ ArAt w' gA gB cap (a.put k s.data.toList).1 ∧ w.grownBy w' (some gB) := by
  have hf := hg.fit
  have hn := hf.n
  have hsl : s.data.toList.length = s.size := by simp
  have N := Lib.hid fun W hW => noneA gA gB cap a W hf hW
  have GP := Lib.hid fun W hW => gapA gA gB cap a W hf hW
  have LN := Lib.hid fun W hW => lenA gA gB cap a W hf hW
  have FR := Lib.hid fun W hW => freeA gA gB cap a W hg hW
  have CP := Lib.hid fun W hW => compactA gA gB cap a W hg hW
  have H := Lib.hid h
  have hroomC := h.room
  clear h
  unfold Ar.put
  by_cases h0 : k < 0
  · rw [if_pos (.inl h0)]
    go_enter Try.func97, Try.ntmps97
    go_wp2_with fail
    refine (N.out _ H.out).mono ?_
    rintro e w1 ⟨rfl, h1⟩
    go_wp2_with fail
    go_ret
    exact ⟨rfl, H.out.below h1, grown_below _ h1⟩
  by_cases h1 : (a.L.length : Int) < k
  · rw [if_pos (.inr h1)]
    go_enter Try.func97, Try.ntmps97
    go_wp2_with fail
    refine (N.out _ H.out).mono ?_
    rintro e w1 ⟨rfl, h1⟩
    have HA1 := Lib.hid (H.out.below h1)
    have HB1 := Lib.hid h1
    clear h1
    go_wp2_with fail
    refine (LN.out _ HA1.out).mono ?_
    rintro e w2 ⟨rfl, h2⟩
    have hA2 := HA1.out.below h2
    have hB2 := HB1.out.trans (h2.mono HB1.out.size)
    clear h2
    go_wp2_with fail
    go_ret
    exact ⟨rfl, hA2, grown_below _ hB2⟩
  obtain ⟨k, rfl⟩ := Int.eq_ofNat_of_zero_le (Int.not_lt.1 h0)
  rw [if_neg (by omega)]
  have hkn : k ≤ a.L.length := by omega
  have n1 : IntKind.i64.wrap ((s.size : Int) + 4) = (s.size : Int) + 4 := IntWalk.i64_in _ ⟨by omega, by omega⟩
  by_cases h2 : a.free < (s.size : Int) + 4
  · rw [if_pos (by rw [hsl]; exact h2)]
    go_enter Try.func97, Try.ntmps97
    go_wp2_with fail
    refine (N.out _ H.out).mono ?_
    rintro e w1 ⟨rfl, h1⟩
    have HA1 := Lib.hid (H.out.below h1)
    have HB1 := Lib.hid h1
    clear h1
    go_wp2_with fail
    refine (LN.out _ HA1.out).mono ?_
    rintro e w2 ⟨rfl, h2⟩
    have HA2 := Lib.hid (HA1.out.below h2)
    have HB2 := Lib.hid (below_then HB1.out h2)
    clear h2
    go_wp2_with fail
    refine (FR.out _ HA2.out).mono ?_
    rintro e w3 ⟨rfl, h3⟩
    have hA3 := HA2.out.below h3
    have hB3 := below_then HB2.out h3
    clear h3
    go_wp2_with fail
    go_ret
    exact ⟨rfl, hA3, grown_below _ hB3⟩
  rw [if_neg (by rw [hsl]; exact h2)]
  have hro := hg.roomy (s.size + 4) (by omega)
  have hrb : Hid ((a.roomy (s.data.toList.length + 4)).putIn (k : Int).toNat s.data.toList = (a.roomy (s.size + 4)).putIn k s.data.toList) := by show _ = _; rw [hsl]; rfl
  have hrd : Hid (a.roomy (s.size + 4) = if a.gap < ((s.size + 4 : Nat) : Int) then a.compact else a) := rfl
  generalize a.roomy (s.size + 4) = b at *
  obtain ⟨hbg, _, hbn, hroom, hbB⟩ := hro
  have hbf := hbg.fit
  have hcf := hbf.below s.data.toList (by omega)
  have hbl := hbf.l
  have hbh := hbf.hi
  have BL0 := fun W hW => belowA gA gB cap b s W hbf (by omega) hW
  have hcn : (b.below s.data.toList).L.length = a.L.length := hbn
  have hcB : (b.below s.data.toList).B.length = b.B.length := by show (putAt b.B _ _).length = _; exact putAt_len (by omega)
  have hclow : (b.below s.data.toList).low = b.low - s.size := by show b.low - _ = _; rw [hsl]
  have hcfin : (b.below s.data.toList).fin = b.fin := rfl
  have LC0 := fun W hW => lenA gA gB cap (b.below s.data.toList) W hcf hW
  rw [hcn] at LC0
  have BL := Lib.hid BL0
  have LC := Lib.hid LC0
  clear BL0 LC0
  have m1 : IntKind.i64.wrap (4 * (k : Int)) = 4 * (k : Int) := IntWalk.i64_in _ ⟨by omega, by omega⟩
  have m2 : IntKind.i64.wrap (4 + 4 * (k : Int)) = ((4 + 4 * k : Nat) : Int) := by rw [show ((4 + 4 * k : Nat) : Int) = 4 + 4 * (k : Int) by omega]; exact IntWalk.i64_in _ ⟨by omega, by omega⟩
  have m3 : IntKind.i64.wrap (((4 + 4 * k : Nat) : Int) + 4) = ((8 + 4 * k : Nat) : Int) := by rw [show ((8 + 4 * k : Nat) : Int) = ((4 + 4 * k : Nat) : Int) + 4 by omega]; exact IntWalk.i64_in _ ⟨by omega, by omega⟩
  have m4 : IntKind.i64.wrap (4 * (a.L.length : Int)) = 4 * (a.L.length : Int) := IntWalk.i64_in _ ⟨by omega, by omega⟩
  have m5 : IntKind.i64.wrap (4 + 4 * (a.L.length : Int)) = ((4 + 4 * a.L.length : Nat) : Int) := by rw [show ((4 + 4 * a.L.length : Nat) : Int) = 4 + 4 * (a.L.length : Int) by omega]; exact IntWalk.i64_in _ ⟨by omega, by omega⟩
  have m6 : IntKind.i64.wrap ((a.L.length : Int) + 1) = ((a.L.length + 1 : Nat) : Int) := by rw [show ((a.L.length + 1 : Nat) : Int) = (a.L.length : Int) + 1 by omega]; exact IntWalk.i64_in _ ⟨by omega, by omega⟩
  have hfin0 : Hid (b.fin = 4 + 4 * a.L.length) := by show 4 + 4 * b.L.length = _; rw [hbn]
  have hcapB : b.B.length ≤ cap := by rw [hbB]; exact hroomC
  have hK : Hid (4 + 4 * k + 4 = 8 + 4 * k ∧ 8 + 4 * k = 8 + 4 * k ∧ 4 + 4 * a.L.length = 4 + 4 * a.L.length) := ⟨by omega, rfl, rfl⟩
  obtain ⟨K1, hK1⟩ : ∃ x, x = 4 + 4 * k := ⟨_, rfl⟩
  obtain ⟨K2, hK2⟩ : ∃ x, x = 8 + 4 * k := ⟨_, rfl⟩
  obtain ⟨E, hE⟩ : ∃ x, x = 4 + 4 * a.L.length := ⟨_, rfl⟩
  have f0 := hfin0.out
  have q1 : (0 : Int) ≤ (K1 : Int) := by omega
  have q2 : (K1 : Int) ≤ (E : Int) := by omega
  have q3 : (E : Int) ≤ (cap : Int) := by omega
  have q4 : (0 : Int) ≤ (K2 : Int) := by omega
  have q5 : (K2 : Int) ≤ (b.B.length : Int) := by omega
  have q6 : (K2 : Int) ≤ (cap : Int) := by omega
  have q8 : ¬ cap = K1 := by omega
  have q7 : ¬ (K1 : Int) = (cap : Int) := by omega
  rw [← hK1] at m2 m3
  rw [← hK2] at m3
  rw [← hE] at m5
  obtain ⟨zs, hzs⟩ : ∃ x, x = ((b.below s.data.toList).enc.drop K1).take (4 * (a.L.length - k)) := ⟨_, rfl⟩
  have hel : (b.below s.data.toList).enc.length = b.B.length := by rw [hcf.len, hcB]
  have hzl : zs.length = E - K1 := by rw [hzs, List.length_take, List.length_drop, hel]; omega
  have hzg : ∀ j (hj : j < zs.length) (hj' : K1 + j < (b.below s.data.toList).enc.length), zs[j] = (b.below s.data.toList).enc[K1 + j] := by
    intro j hj hj'
    simp [hzs]
  have CL := Lib.hid fun W (hW : ArAt W gA gB cap (b.below s.data.toList)) => cloneBytes_any gB K1 (E - K1) (cap - K1) zs W hzl (by omega) (fun j hj => by
    rw [hzg j hj (by omega)]
    exact hW.area.row.cell (K1 + j) (by omega))
  have HZM : Hid (zs.length = Nat.min (E - K1) (b.B.length - K2)) := by show _ = _; rw [hzl]; exact (Nat.min_eq_left (by omega)).symm
  have HZF : Hid (K2 + zs.length ≤ (b.below s.data.toList).enc.length) := by show _ ≤ _; rw [hzl, hel]; omega
  have SRC : Hid (∀ (W : World) (B g c : Nat), W.ownsRow B 5 1 (.slice (some ⟨g, 0, none⟩) (E - K1) c) (E - K1) (zs.map fun b => .int .u8 (b.toNat : Int)) → ∀ j (hj : j < zs.length), W.cell? ((⟨g, 0, none⟩ : Addr).add j) = some (.int .u8 (zs[j].toNat : Int))) := by
    show ∀ (W : World) (B g c : Nat), _ → _
    intro W B g c hO j hj
    rw [Addr.add_lit, Nat.zero_add]
    exact own_cell hO j _ (by simp [List.getElem?_eq_getElem hj])
  obtain ⟨x, y, hxy0⟩ := (b.below s.data.toList).shift k (by rw [hcn]; exact hkn)
  have hxy := hxy0.resolve_right (by rw [hcB, hcfin]; omega)
  rw [hcn, ← hK1, ← hK2, ← hzs] at hxy
  have hdf : ({ b.below s.data.toList with L := (b.below s.data.toList).L.take k ++ (x, y) :: (b.below s.data.toList).L.drop k } : Ar).Fit := by
    refine ⟨by rw [hcB]; exact hbf.lo, by rw [hcB]; exact hbh, ?_, hcf.l⟩
    show 4 + 4 * ((b.below s.data.toList).L.take k ++ (x, y) :: (b.below s.data.toList).L.drop k).length ≤ (b.below s.data.toList).low
    simp only [List.length_append, List.length_take, List.length_cons, List.length_drop, hclow, hcn]
    omega
  have hdk : k < ({ b.below s.data.toList with L := (b.below s.data.toList).L.take k ++ (x, y) :: (b.below s.data.toList).L.drop k } : Ar).L.length := by
    show k < ((b.below s.data.toList).L.take k ++ (x, y) :: (b.below s.data.toList).L.drop k).length
    simp only [List.length_append, List.length_take, List.length_cons, List.length_drop, hcn]
    omega
  have TW := Lib.hid fun W (hW : AreaIn W gA gB cap (putAt (b.below s.data.toList).enc K2 zs)) => slotTwo_any gA gB cap 0 (a.L.length + 1) (putAt (b.below s.data.toList).enc K2 zs) W (by rw [putAt_len (by rw [hzl]; omega), hel]; omega) (by rw [putAt_len (by rw [hzl]; omega), hel]; omega) (by rw [putAt_len (by rw [hzl]; omega), hel]; omega) (by omega) hW
  have HXY := Lib.hid hxy
  have HRM : Hid (({ b.below s.data.toList with L := (b.below s.data.toList).L.take k ++ (x, y) :: (b.below s.data.toList).L.drop k } : Ar).B.length ≤ cap) := by show (b.below s.data.toList).B.length ≤ cap; rw [hcB]; exact hcapB
  have PL := Lib.hid fun W hW => placeA gA gB cap k (b.low - s.size) s.size _ W hdf hdk (by omega) (by omega) hW
  have hpp := b.put_place k s.data.toList x y (by omega)
  rw [hsl] at hpp
  have HPP := Lib.hid hpp
  have Fin8 : Hid (∀ (W W2 W3 : World), True) := fun _ _ _ => trivial
  have fin8 : ∀ (W W3 : World), ArAt W gA gB cap (b.below s.data.toList) → ∀ {W2 : World}, Below W.heap.size W W2 → W2.grownBy W3 (some gB) → RowAt W3 gB ((b.below s.data.toList).enc.take K2 ++ zs ++ (b.below s.data.toList).enc.drop (K2 + zs.length)) → AreaIn W3 gA gB cap (putAt (b.below s.data.toList).enc K2 zs) :=
    fun W W3 hA W2 hb hg hr => (hA.below hb).area.grown hg hr (putAt_len (by rw [hzl]; omega))
  clear Fin8
  have Fin8 := Lib.hid fin8
  have HZ0 : Hid (0 + zs.length ≤ (b.below s.data.toList).enc.length) := by show _ ≤ _; rw [hzl, hel]; omega
  have HR0 : cap = K2 → ∀ W, RowAt W gB ((b.below s.data.toList).enc.take 0 ++ zs ++ (b.below s.data.toList).enc.drop (0 + zs.length)) → RowAt W gB ((b.below s.data.toList).enc.take K2 ++ zs ++ (b.below s.data.toList).enc.drop (K2 + zs.length)) := by
    intro hc W hr
    have h0 : zs = [] := List.length_eq_zero_iff.1 (by rw [hzl]; omega)
    rw [h0] at hr ⊢
    simpa using hr
  have HZM0' : cap = K2 → zs.length = Nat.min (E - K1) 0 := by
    intro hc
    have e : Nat.min (E - K1) 0 = 0 := Nat.min_eq_right (Nat.zero_le _)
    rw [hzl, e]
    omega
  have HZM0 := Lib.hid HZM0'
  have HR0' := HR0
  clear HR0
  have HR0 := Lib.hid HR0'
  clear HR0' HZM0' hxy hxy0 hdf hdk hpp fin8 hcn
  have HBN := Lib.hid hbn
  have HBB := Lib.hid hbB
  clear hbn hbB
  have HK1 := Lib.hid hK1
  have HZ := Lib.hid hzs
  have HZL := Lib.hid hzl
  have HEL := Lib.hid hel
  clear hzg hzs hzl hel
  have HK2 := Lib.hid hK2
  have HE := Lib.hid hE
  clear hK hK1 hK2 hE f0
  by_cases h3 : a.gap < (s.size : Int) + 4
  · have HBE : Hid (b = a.compact) := by show _ = _; rw [hrd.out, if_pos (by omega)]
    go_enter Try.func97, Try.ntmps97
    go_wp2_with fail
    refine (N.out _ H.out).mono ?_
    rintro e w1 ⟨rfl, h1⟩
    have HA1 := Lib.hid (H.out.below h1)
    have HB1 := Lib.hid h1
    clear h1
    go_wp2_with fail
    refine (LN.out _ HA1.out).mono ?_
    rintro e w2 ⟨rfl, h2⟩
    have HA2 := Lib.hid (HA1.out.below h2)
    have HB2 := Lib.hid (below_then HB1.out h2)
    clear h2
    go_wp2_with fail
    refine (FR.out _ HA2.out).mono ?_
    rintro e w3 ⟨rfl, h3⟩
    have HA3 := Lib.hid (HA2.out.below h3)
    have HB3 := Lib.hid (below_then HB2.out h3)
    clear h3
    go_wp2_with fail
    refine (GP.out _ HA3.out).mono ?_
    rintro e w4 ⟨rfl, h4⟩
    have HA4 := Lib.hid (HA3.out.below h4)
    have HB4 := Lib.hid (below_then HB3.out h4)
    clear h4
    go_wp2_with fail
    refine (CP.out _ HA4.out).mono ?_
    rintro e w4b ⟨rfl, hAc, hgc⟩
    rw [← HBE.out] at hAc
    have HB := Lib.hid hAc
    have HG := Lib.hid (grown_step HB4.out hgc)
    clear hAc hgc
    go_wp2_with fail
    have HBW := Lib.hid (HB.out)
    refine (BL.out _ HB.out).mono ?_
    rintro e w5 ⟨rfl, hA5, hg5⟩
    have HA5 := Lib.hid hA5
    have HG5 := Lib.hid (grown_trans HG.out hg5)
    clear hA5 hg5
    go_wp2_with fail
    refine (LC.out _ HA5.out).mono ?_
    rintro e w6 ⟨rfl, h6⟩
    have HA6 := Lib.hid (HA5.out.below h6)
    have HG6 := Lib.hid (grown_trans HG5.out (grown_below _ h6))
    clear h6
    go_upto_region 12 with fail
    have own6 : w6.cell? ⟨gA, 0, none⟩ = some (.slice (some ⟨gB, 0, none⟩) b.B.length cap) := by rw [← hcB, ← hcf.len, blk_cell HA6.out.area.own]; rfl
    by_cases hcc : cap = K2
    · subst hcc
      have hN : b.B.length = cap := by omega
      rw [hN] at own6
      go_region_held3 (fun w' => w'.cell? ⟨gA, 0, none⟩ = some (.slice (some ⟨gB, 0, none⟩) cap cap)) (first | exact hg8.cell (a := ⟨gA, 0, none⟩) (by assumption) (by simp; exact HA6.out.area.ne) | exact keep_cell h7 (by assumption) | go_keep | fail) (first
        | (go_at_call 162; refine (CL.out _ (HA6.out.below (Below.refl _ _).drew)).mono ?_; rintro e w7 ⟨g7, c7, rfl, hO7, h7⟩)
        | (refine step_copy_part (g := gB) (k := 0) (dLen := 0) (dCap := 0) (sLen := E - K1) (sCap := c7) (l := (b.below s.data.toList).enc) (zs := zs) rfl (.tmp 52) (.tmp 62) 70 70 5 ⟨g7, 0, none⟩ (by rfl) (by rfl) (by rfl) ((HA6.out.below (Below.refl _ _).drew).below h7).area.row Try.underlying70 (by kernel_rfl) (HZM0.out (by trivial)) (SRC.out _ _ _ _ hO7) HZ0.out ?_; intro w8 hr8 hg8))
      have HA8 := Lib.hid (Fin8.out _ _ HA6.out (below_then ((Below.refl _ _).drew) h7) hg8 (HR0.out (by trivial) _ hr8))
      have HG8 := Lib.hid (grown_trans HG6.out (grown_step (below_then ((Below.refl w6.heap.size w6).drew) h7) hg8))
      clear hO7 h7 hr8 hg8 own6
      go_wp2_with fail
      refine (TW.out _ HA8.out).mono ?_
      rintro e w9 ⟨rfl, hA9, hg9⟩
      rw [HXY.out] at hA9
      have HA9 := Lib.hid (ArAt.mk hA9 HRM.out)
      have HG9 := Lib.hid (grown_trans HG8.out hg9)
      clear hA9 hg9
      go_wp2_with fail
      refine (PL.out _ HA9.out).mono ?_
      rintro e w10 ⟨rfl, hA10, hg10⟩
      rw [HPP.out] at hA10
      have HA10 := Lib.hid hA10
      have HG10 := Lib.hid (grown_trans HG9.out hg10)
      clear hA10 hg10
      go_wp2_with fail
      go_ret
      rw [hrb.out]
      exact ⟨rfl, HA10.out, HG10.out⟩
    · have hcc1 : ¬ (K2 : Int) = (cap : Int) := by omega
      go_region_held3 (fun w' => w'.cell? ⟨gA, 0, none⟩ = some (.slice (some ⟨gB, 0, none⟩) b.B.length cap)) (first | exact hg8.cell (a := ⟨gA, 0, none⟩) (by assumption) (by simp; exact HA6.out.area.ne) | exact keep_cell h7 (by assumption) | go_keep | fail) (first
        | (go_at_call 162; refine (CL.out _ (HA6.out.below (Below.refl _ _).drew)).mono ?_; rintro e w7 ⟨g7, c7, rfl, hO7, h7⟩)
        | (refine step_copy_part (g := gB) (k := K2) (dLen := b.B.length - K2) (dCap := cap - K2) (sLen := E - K1) (sCap := c7) (l := (b.below s.data.toList).enc) (zs := zs) rfl (.tmp 52) (.tmp 62) 70 70 5 ⟨g7, 0, none⟩ (by rfl) (by rfl) (by rfl) ((HA6.out.below (Below.refl _ _).drew).below h7).area.row Try.underlying70 (by kernel_rfl) HZM.out (SRC.out _ _ _ _ hO7) HZF.out ?_; intro w8 hr8 hg8))
      have HA8 := Lib.hid (Fin8.out _ _ HA6.out (below_then ((Below.refl _ _).drew) h7) hg8 hr8)
      have HG8 := Lib.hid (grown_trans HG6.out (grown_step (below_then ((Below.refl w6.heap.size w6).drew) h7) hg8))
      clear hO7 h7 hr8 hg8 own6
      go_wp2_with fail
      refine (TW.out _ HA8.out).mono ?_
      rintro e w9 ⟨rfl, hA9, hg9⟩
      rw [HXY.out] at hA9
      have HA9 := Lib.hid (ArAt.mk hA9 HRM.out)
      have HG9 := Lib.hid (grown_trans HG8.out hg9)
      clear hA9 hg9
      go_wp2_with fail
      refine (PL.out _ HA9.out).mono ?_
      rintro e w10 ⟨rfl, hA10, hg10⟩
      rw [HPP.out] at hA10
      have HA10 := Lib.hid hA10
      have HG10 := Lib.hid (grown_trans HG9.out hg10)
      clear hA10 hg10
      go_wp2_with fail
      go_ret
      rw [hrb.out]
      exact ⟨rfl, HA10.out, HG10.out⟩
  · have HBE : Hid (b = a) := by show _ = _; rw [hrd.out, if_neg (by omega)]
    go_enter Try.func97, Try.ntmps97
    go_wp2_with fail
    refine (N.out _ H.out).mono ?_
    rintro e w1 ⟨rfl, h1⟩
    have HA1 := Lib.hid (H.out.below h1)
    have HB1 := Lib.hid h1
    clear h1
    go_wp2_with fail
    refine (LN.out _ HA1.out).mono ?_
    rintro e w2 ⟨rfl, h2⟩
    have HA2 := Lib.hid (HA1.out.below h2)
    have HB2 := Lib.hid (below_then HB1.out h2)
    clear h2
    go_wp2_with fail
    refine (FR.out _ HA2.out).mono ?_
    rintro e w3 ⟨rfl, h3⟩
    have HA3 := Lib.hid (HA2.out.below h3)
    have HB3 := Lib.hid (below_then HB2.out h3)
    clear h3
    go_wp2_with fail
    refine (GP.out _ HA3.out).mono ?_
    rintro e w4 ⟨rfl, h4⟩
    have hAb := HA3.out.below h4
    rw [← HBE.out] at hAb
    have HB := Lib.hid hAb
    have HG := Lib.hid (grown_below (some gB) (below_then HB3.out h4))
    clear h4 hAb
    go_wp2_with fail
    have HBW := Lib.hid (HB.out)
    refine (BL.out _ HB.out).mono ?_
    rintro e w5 ⟨rfl, hA5, hg5⟩
    have HA5 := Lib.hid hA5
    have HG5 := Lib.hid (grown_trans HG.out hg5)
    clear hA5 hg5
    go_wp2_with fail
    refine (LC.out _ HA5.out).mono ?_
    rintro e w6 ⟨rfl, h6⟩
    have HA6 := Lib.hid (HA5.out.below h6)
    have HG6 := Lib.hid (grown_trans HG5.out (grown_below _ h6))
    clear h6
    go_upto_region 12 with fail
    have own6 : w6.cell? ⟨gA, 0, none⟩ = some (.slice (some ⟨gB, 0, none⟩) b.B.length cap) := by rw [← hcB, ← hcf.len, blk_cell HA6.out.area.own]; rfl
    by_cases hcc : cap = K2
    · subst hcc
      have hN : b.B.length = cap := by omega
      rw [hN] at own6
      go_region_held3 (fun w' => w'.cell? ⟨gA, 0, none⟩ = some (.slice (some ⟨gB, 0, none⟩) cap cap)) (first | exact hg8.cell (a := ⟨gA, 0, none⟩) (by assumption) (by simp; exact HA6.out.area.ne) | exact keep_cell h7 (by assumption) | go_keep | fail) (first
        | (go_at_call 162; refine (CL.out _ (HA6.out.below (Below.refl _ _).drew)).mono ?_; rintro e w7 ⟨g7, c7, rfl, hO7, h7⟩)
        | (refine step_copy_part (g := gB) (k := 0) (dLen := 0) (dCap := 0) (sLen := E - K1) (sCap := c7) (l := (b.below s.data.toList).enc) (zs := zs) rfl (.tmp 52) (.tmp 62) 70 70 5 ⟨g7, 0, none⟩ (by rfl) (by rfl) (by rfl) ((HA6.out.below (Below.refl _ _).drew).below h7).area.row Try.underlying70 (by kernel_rfl) (HZM0.out (by trivial)) (SRC.out _ _ _ _ hO7) HZ0.out ?_; intro w8 hr8 hg8))
      have HA8 := Lib.hid (Fin8.out _ _ HA6.out (below_then ((Below.refl _ _).drew) h7) hg8 (HR0.out (by trivial) _ hr8))
      have HG8 := Lib.hid (grown_trans HG6.out (grown_step (below_then ((Below.refl w6.heap.size w6).drew) h7) hg8))
      clear hO7 h7 hr8 hg8 own6
      go_wp2_with fail
      refine (TW.out _ HA8.out).mono ?_
      rintro e w9 ⟨rfl, hA9, hg9⟩
      rw [HXY.out] at hA9
      have HA9 := Lib.hid (ArAt.mk hA9 HRM.out)
      have HG9 := Lib.hid (grown_trans HG8.out hg9)
      clear hA9 hg9
      go_wp2_with fail
      refine (PL.out _ HA9.out).mono ?_
      rintro e w10 ⟨rfl, hA10, hg10⟩
      rw [HPP.out] at hA10
      have HA10 := Lib.hid hA10
      have HG10 := Lib.hid (grown_trans HG9.out hg10)
      clear hA10 hg10
      go_wp2_with fail
      go_ret
      rw [hrb.out]
      exact ⟨rfl, HA10.out, HG10.out⟩
    · have hcc1 : ¬ (K2 : Int) = (cap : Int) := by omega
      go_region_held3 (fun w' => w'.cell? ⟨gA, 0, none⟩ = some (.slice (some ⟨gB, 0, none⟩) b.B.length cap)) (first | exact hg8.cell (a := ⟨gA, 0, none⟩) (by assumption) (by simp; exact HA6.out.area.ne) | exact keep_cell h7 (by assumption) | go_keep | fail) (first
        | (go_at_call 162; refine (CL.out _ (HA6.out.below (Below.refl _ _).drew)).mono ?_; rintro e w7 ⟨g7, c7, rfl, hO7, h7⟩)
        | (refine step_copy_part (g := gB) (k := K2) (dLen := b.B.length - K2) (dCap := cap - K2) (sLen := E - K1) (sCap := c7) (l := (b.below s.data.toList).enc) (zs := zs) rfl (.tmp 52) (.tmp 62) 70 70 5 ⟨g7, 0, none⟩ (by rfl) (by rfl) (by rfl) ((HA6.out.below (Below.refl _ _).drew).below h7).area.row Try.underlying70 (by kernel_rfl) HZM.out (SRC.out _ _ _ _ hO7) HZF.out ?_; intro w8 hr8 hg8))
      have HA8 := Lib.hid (Fin8.out _ _ HA6.out (below_then ((Below.refl _ _).drew) h7) hg8 hr8)
      have HG8 := Lib.hid (grown_trans HG6.out (grown_step (below_then ((Below.refl w6.heap.size w6).drew) h7) hg8))
      clear hO7 h7 hr8 hg8 own6
      go_wp2_with fail
      refine (TW.out _ HA8.out).mono ?_
      rintro e w9 ⟨rfl, hA9, hg9⟩
      rw [HXY.out] at hA9
      have HA9 := Lib.hid (ArAt.mk hA9 HRM.out)
      have HG9 := Lib.hid (grown_trans HG8.out hg9)
      clear hA9 hg9
      go_wp2_with fail
      refine (PL.out _ HA9.out).mono ?_
      rintro e w10 ⟨rfl, hA10, hg10⟩
      rw [HPP.out] at hA10
      have HA10 := Lib.hid hA10
      have HG10 := Lib.hid (grown_trans HG9.out hg10)
      clear hA10 hg10
      go_wp2_with fail
      go_ret
      rw [hrb.out]
      exact ⟨rfl, HA10.out, HG10.out⟩

end Go.Proofs.Ytienlhnbmobinaa
