/- The document's area: Put. -/
import Derived.Test.YtienlhnbmobinaaRows
import Derived.Test.YtienlhnbmobinaaRefRoot
import Derived.Test.YtienlhnbmobinaaRefCompact
import Derived.Test.YtienlhnbmobinaaSlotRoot
import Derived.Test.YtienlhnbmobinaaSlotCompact
import Derived.Test.YtienlhnbmobinaaBase
import Derived.Deep.LoopGhost
import Derived.WalkKit
import Derived.WalkLawsBesides
import Derived.WalkSpells
import Derived.LoopTactic
import Derived.WalkMore
import Derived.LoopN
import Derived.Laws.BitsAllLaws
import Derived.Laws.IdiomStrings
import Derived.BigQuiet
import Derived.Deep.QuietTactic
import Derived.Deep.DeepCutAuto
import Derived.Deep.RegionHeld3
import Derived.Deep.DrawnRows
import Derived.Lib.Hide
import Derived.Outline
import Derived.Deep.DeepMust
import Derived.Handy
namespace Go.Proofs.Ytienlhnbmobinaa
open Go.RowKit
set_option linter.unusedVariables false
set_option linter.unusedSimpArgs false

/-- What a call of the document's area leaves. -/
def RefThen (w0 : World) (g gB cap : Nat) (v : Value) (b : Ar) (w' : World) : Prop :=
  ∃ v', RefAt w' g gB cap v' b ∧ OthersKept w0 w' (refOwn g gB v) ∧ ∀ x, v'.ownBlock = some x → v.ownBlock = some x ∨ w0.heap.size ≤ x
theorem RefThen.stay {w w' : World} {g gB cap : Nat} {v : Value} {a : Ar} (h : RefAt w g gB cap v a) (hb : Below w.heap.size w w') : RefThen w g gB cap v a w' :=
  ⟨v, h.below hb, OthersKept.of_below hb, fun _ h => .inl h⟩
theorem one_place (lo n : Nat) : places [(lo, n)] = [.int .i64 lo, .int .i64 n] := rfl
theorem reads_one2 (w : World) (x y : Value) (t : TypeId) (c : Nat) : Reads (w.alloc (.cells #[x, y] t)) (.slice (some ⟨w.heap.size, 0, none⟩) 1 c) 1 2 [x, y] := by
  refine .inr ⟨_, c, rfl, rfl, fun j u hu => ?_⟩
  rw [Addr.add_lit, Nat.zero_add, blk_cell (heap_alloc_new w _)]
  simpa using hu
theorem fit_below {a : Ar} (h : a.Fit) (t : List UInt8) (hr : a.fin + t.length ≤ a.low) : (a.below t).B.length = a.B.length := by
  have := h.l
  show (putAt a.B _ _).length = _
  rw [putAt_len (by omega)]

set_option maxHeartbeats 4000000 in
set_option maxRecDepth 100000 in
theorem refPut_nil (g gB cap : Nat) (a : Ar) (k : Int) (s : ByteArray) (w : World) (hg : a.Good) (hs : s.size ≤ 100000) (hn0 : a.L.length = 0) (h : RefAt w g gB cap (.slice none 0 0) a) :
    Calls Try.prog 102 #[.pointer (some ⟨g, 0, none⟩), .int .i64 k, .string s] w fun e w' => e = .returned (.int .i64 (a.put k s.data.toList).2) ∧ RefThen w g gB cap (.slice none 0 0) (a.put k s.data.toList).1 w' := by
  have hf := hg.fit
  have hn := hf.n
  have hsl : s.data.toList.length = s.size := by simp
  have GP := Lib.hid fun W hW => refGap_any g gB cap (.slice none 0 0) a W hf hW
  have FR := Lib.hid fun W hW => refFree_any g gB cap (.slice none 0 0) a W hg hW
  have CP := Lib.hid fun W hW => refCompact_any g gB cap (.slice none 0 0) a W hg hW
  have H := Lib.hid h
  have hgl := blk_lt h.own
  have c2 := h.c2
  clear h
  unfold Ar.put
  by_cases h0 : k < 0
  · rw [if_pos (.inl h0)]
    go_enter Try.func102, Try.ntmps102
    go_wp2_with fail
    go_ret
    exact ⟨rfl, RefThen.stay H.out (Below.refl _ _)⟩
  by_cases h1 : (a.L.length : Int) < k
  · rw [if_pos (.inr h1)]
    rw [hn0] at h1
    go_enter Try.func102, Try.ntmps102
    go_wp2_with fail
    go_ret
    exact ⟨rfl, RefThen.stay H.out (Below.refl _ _)⟩
  obtain ⟨k, rfl⟩ := Int.eq_ofNat_of_zero_le (Int.not_lt.1 h0)
  rw [if_neg (by omega)]
  have hkn : k ≤ a.L.length := by omega
  clear h0 h1
  obtain rfl : k = 0 := by omega
  have n1 : IntKind.i64.wrap ((s.size : Int) + 4) = (s.size : Int) + 4 := IntWalk.i64_in _ ⟨by omega, by omega⟩
  by_cases h2 : a.free < (s.size : Int) + 4
  · rw [if_pos (by rw [hsl]; exact h2)]
    go_enter Try.func102, Try.ntmps102
    go_wp2_with fail
    refine (FR.out _ H.out).mono ?_
    rintro e w1 ⟨rfl, h1⟩
    go_wp2_with fail
    go_ret
    exact ⟨rfl, RefThen.stay H.out h1⟩
  rw [if_neg (by rw [hsl]; exact h2)]
  have hro := hg.roomy (s.size + 4) (by omega)
  have hrb : Hid ((a.roomy (s.data.toList.length + 4)).putIn ((0 : Nat) : Int).toNat s.data.toList = (a.roomy (s.size + 4)).putIn (0 : Nat) s.data.toList) := by show _ = _; rw [hsl]; rfl
  have hrd : Hid (a.roomy (s.size + 4) = if a.gap < ((s.size + 4 : Nat) : Int) then a.compact else a) := rfl
  generalize a.roomy (s.size + 4) = b at *
  obtain ⟨hbg, _, hbn, hroom, hbB⟩ := hro
  have hbf := hbg.fit
  have hbl := hbf.l
  have hbh := hbf.hi
  obtain ⟨lo, hlo⟩ : ∃ x, x = b.low - s.size := ⟨_, rfl⟩
  have BL : Hid (∀ W, RefAt W g gB cap (.slice none 0 0) b → Calls Try.prog 169 #[.pointer (some ⟨g, 0, none⟩), .string s] W fun e w' => e = .returned (.agg #[.int .i64 (lo : Int), .int .i64 (s.size : Nat)]) ∧ RefAt w' g gB cap (.slice none 0 0) (b.below s.data.toList) ∧ OthersKept W w' (fun k => k = g ∨ k = gB)) := by
    show ∀ W, _
    intro W hW
    have := refBelow_any g gB cap (.slice none 0 0) b s W hbf (by omega) hW
    rw [← hlo] at this
    exact this
  have Hlo := Lib.hid hlo
  have HB := Lib.hid hbB
  have HN := Lib.hid hbn
  obtain ⟨i0, hi0, hz0, hz1, hz2⟩ := info_parts (P := Try.prog) (e := 192) (z := .agg #[.int .i64 0, .int .i64 0]) (size := 2) (bytes := 16) (by kernel_rfl)
  clear hlo hroom hbg hbf hbB hbn
  go_enter Try.func102, Try.ntmps102
  go_wp2_with fail
  refine (FR.out _ H.out).mono ?_
  rintro e w1 ⟨rfl, h1⟩
  have HA1 := Lib.hid (H.out.below h1)
  have HB1 := Lib.hid h1
  clear h1 c2
  go_wp2_with fail
  refine (GP.out _ HA1.out).mono ?_
  rintro e w2 ⟨rfl, h2⟩
  have HA2 := Lib.hid (HA1.out.below h2)
  have HB2 := Lib.hid (below_then HB1.out h2)
  clear h2
  go_upto_if 31 with fail
  go_cut [] (fun w' => RefAt w' g gB cap (.slice none 0 0) b ∧ OthersKept w w' (refOwn g gB (.slice none 0 0)))
  case first =>
    by_cases h3 : a.gap < (s.size : Int) + 4
    · have HBE : Hid (b = a.compact) := by show _ = _; rw [hrd.out, if_pos (by omega)]
      go_wp2_with fail
      refine (CP.out _ HA2.out).mono ?_
      rintro e w3 ⟨rfl, hA3, hK3⟩
      have HA3 := Lib.hid hA3
      have HK3 := Lib.hid ((OthersKept.of_below HB2.out).trans hK3 (fun _ _ h => h))
      clear hA3 hK3
      go_wp2_with fail
      go_meet
      rw [HBE.out]
      exact ⟨HA3.out, HK3.out⟩
    · have HBE : Hid (b = a) := by show _ = _; rw [hrd.out, if_neg (by omega)]
      go_wp2_with fail
      go_meet
      rw [HBE.out]
      exact ⟨HA2.out, OthersKept.of_below HB2.out⟩
  case rest =>
    obtain ⟨hA, hK⟩ := hcut
    have HA := Lib.hid hA
    have HK := Lib.hid hK
    clear hA hK
    go_wp2_with fail
    refine (BL.out _ HA.out).mono ?_
    rintro e w5 ⟨rfl, hA5, hK5⟩
    have HA5 := Lib.hid hA5
    have HK5 := Lib.hid (HK.out.trans hK5 (fun k _ h => by rcases h with h | h <;> simp [refOwn, h]))
    clear hA5 hK5
    have c5 := HA5.out.c2
    have hg5 := blk_lt HA5.out.own
    have hgB5 := HA5.out.row.lt
    have HB7 : Hid (Below w5.heap.size w5 ((w5.alloc (.cells #[.int .i64 (lo : Int), .int .i64 (s.size : Nat)] 192)).alloc (.cells #[] 192))) := ((Below.refl _ _).alloc (Nat.le_refl _) _).alloc (by simp) _
    have HB6 : Hid (((w5.alloc (.cells #[.int .i64 (lo : Int), .int .i64 (s.size : Nat)] 192)).alloc (.cells #[] 192)).heap[w5.heap.size]? = some (.cells #[.int .i64 (lo : Int), .int .i64 (s.size : Nat)] 192)) := heap_keep (heap_alloc_new w5 _)
    have HO7 : Hid (((w5.alloc (.cells #[.int .i64 (lo : Int), .int .i64 (s.size : Nat)] 192)).alloc (.cells #[] 192)).ownsRow (w5.heap.size + 1) 192 2 (.slice (some ⟨w5.heap.size + 1, 0, none⟩) 0 0) 0 []) := by
      show World.ownsRow _ _ _ _ _ _ _
      have := own_empty2 (w5.alloc (.cells #[.int .i64 (lo : Int), .int .i64 (s.size : Nat)] 192)) 192
      have e : (w5.alloc (.cells #[.int .i64 (lo : Int), .int .i64 (s.size : Nat)] 192)).heap.size = w5.heap.size + 1 := by simp
      rw [e] at this
      exact this
    have HKN := Lib.hid hkn
    have ONE : Hid (∀ u ∈ [Value.int .i64 (lo : Int), .int .i64 (s.size : Nat)], u.oneCell' = true) := by
      show ∀ u ∈ _, _
      rw [← one_place]
      exact places_one _
    go_wp2_with (at_builtin; refine wpList_append_any _ rfl (.tmp 37) (.tmp 43) 149 rfl (w5.heap.size + 1) 192 i0 (.agg #[.int .i64 0, .int .i64 0]) 2 16 Try.underlying149 hi0 hz0 hz1 hz2 rfl (by decide) (.slice (some ⟨w5.heap.size + 1, 0, none⟩) 0 0) (0) ([]) (by rfl) (HO7.out) (.slice none 0 0) ((0 : Nat)) ([]) (by rfl) (.inl ⟨rfl, rfl, rfl⟩) (fun u hu => by cases hu) (by unfold maxLen; omega) (by omega) (by simp) ?_; intro v8 w8 ho8 hg8; refine Aside.out ?_)
    have HO8 := Lib.hid ho8
    have b8 : w8.heap[w5.heap.size]? = some (.cells #[.int .i64 (lo : Int), .int .i64 (s.size : Nat)] 192) := (hg8.block _ (blk_lt HB6.out) (by simp [Value.ownBlock])).trans HB6.out
    have p0 := blk_cell b8 0
    have p1 := blk_cell b8 1
    have HB8 := Lib.hid (below_own HB7.out HO7.out (by omega) hg8)
    have HS8 : Hid (w5.heap.size + 1 ≤ (w8.alloc (.cells #[.int .i64 (lo : Int), .int .i64 (s.size : Nat)] 192)).heap.size) := by
      show _ ≤ _
      have := hg8.size
      simp at this ⊢
      omega
    have HB9 := Lib.hid (HB8.out.alloc HB8.out.size (.cells #[.int .i64 (lo : Int), .int .i64 (s.size : Nat)] 192))
    clear ho8 hg8 b8
    unfold Aside
    go_wp2_with (at_builtin; refine wpList_append_any _ rfl (.tmp 45) (.tmp 47) 149 rfl (w5.heap.size + 1) 192 i0 (.agg #[.int .i64 0, .int .i64 0]) 2 16 Try.underlying149 hi0 hz0 hz1 hz2 rfl (by decide) v8 (0 + (0 : Nat)) ([] ++ []) (by rfl) (HO8.out.alloc _) (.slice (some ⟨w8.heap.size, 0, none⟩) 1 1) (1) ([.int .i64 (lo : Int), .int .i64 (s.size : Nat)]) (by rfl) (reads_one2 _ _ _ _ _) (ONE.out) (by unfold maxLen; omega) (by omega) (HS8.out) ?_; intro v10 w10 ho10 hg10; refine Aside.out ?_)
    have HO10 := Lib.hid ho10
    have HB10 := Lib.hid (below_own HB9.out (HO8.out.alloc _) (by omega) hg10)
    have HS10 : Hid (w5.heap.size + 1 ≤ w10.heap.size) := Nat.le_trans HS8.out hg10.size
    have c10 := (HA5.out.below HB10.out).c2
    clear ho10 hg10 p0 p1
    unfold Aside
    go_wp2_with (at_builtin; refine wpList_append_any _ rfl (.tmp 49) (.tmp 55) 149 rfl (w5.heap.size + 1) 192 i0 (.agg #[.int .i64 0, .int .i64 0]) 2 16 Try.underlying149 hi0 hz0 hz1 hz2 rfl (by decide) v10 (0 + (0 : Nat) + 1) ([] ++ [] ++ [.int .i64 (lo : Int), .int .i64 (s.size : Nat)]) (by rfl) (HO10.out) (.slice none 0 0) (0) ([]) (by rfl) (.inl ⟨rfl, rfl, rfl⟩) (fun u hu => by cases hu) (by unfold maxLen; omega) (by omega) (HS10.out) ?_; intro v11 w11 ho11 hg11; refine Aside.out ?_)
    all_goals
      have HB11 := Lib.hid (below_own HB10.out HO10.out (by omega) hg11)
      have HA11 := Lib.hid (HA5.out.below HB11.out)
      have c11 := HA11.out.c2
      have f11 := blk_frozen HA11.out.own 2
      have HL11 : Hid ([] ++ [] ++ [.int .i64 (lo : Int), .int .i64 (s.size : Nat)] ++ [] = places (b.L.take (0 : Nat) ++ (lo, s.size) :: b.L.drop (0 : Nat))) := by
        show _ = _
        rw [List.length_eq_zero_iff.1 (HN.out.trans hn0)]; rfl
      have HN11 : Hid (0 + (0 : Nat) + 1 + 0 = (b.L.take (0 : Nat) ++ (lo, s.size) :: b.L.drop (0 : Nat)).length) := by
        show _ = _
        have := HN.out
        have := HKN.out
        rw [List.length_append, List.length_cons, List.length_take, List.length_drop]
        omega
      rw [HL11.out, HN11.out] at ho11
      have hfr : Hid (∀ x, v11.ownBlock = some x → w.heap.size ≤ x) := by
        show ∀ x, _
        intro x hx
        have := (ho11.lt x hx).1
        have := HK5.out.size
        omega
      have HR := Lib.hid (HA11.out.new_dir ho11 (by omega) (by omega))
      obtain ⟨b11, cp11, rfl, _, _, _⟩ := dir_form ho11
      have HKf := Lib.hid ((HK5.out.trans (OthersKept.of_below (p := fun _ => False) HB11.out) (fun _ _ h => absurd h id)).trans (OthersKept.of_grown (p := fun x => x = g) (g := g) (grown_set (i := 2) (u := .slice b11 (b.L.take (0 : Nat) ++ (lo, s.size) :: b.L.drop (0 : Nat)).length cp11) (grown_refl _ g)) rfl) (fun _ _ h => .inl h))
      clear ho11 hg11
      generalize (b.L.take (0 : Nat) ++ (lo, s.size) :: b.L.drop (0 : Nat)).length = NN at *
      unfold Aside
      go_wp2_with fail
      go_ret
      have he : (a.roomy (s.data.toList.length + 4)).putIn ((0 : Nat) : Int).toNat s.data.toList = { b.below s.data.toList with L := b.L.take (0 : Nat) ++ (lo, s.size) :: b.L.drop (0 : Nat) } := by
        rw [hrb.out, Hlo.out, ← hsl]
        rfl
      rw [he]
      exact ⟨rfl, _, HR.out, HKf.out, fun x hx => .inr (hfr.out x hx)⟩

set_option maxHeartbeats 4000000 in
set_option maxRecDepth 100000 in
theorem refPut_row (g gB cap : Nat) (gd cp : Nat) (a : Ar) (k : Int) (s : ByteArray) (w : World) (hg : a.Good) (hs : s.size ≤ 100000) (h : RefAt w g gB cap (.slice (some ⟨gd, 0, none⟩) a.L.length cp) a) :
    Calls Try.prog 102 #[.pointer (some ⟨g, 0, none⟩), .int .i64 k, .string s] w fun e w' => e = .returned (.int .i64 (a.put k s.data.toList).2) ∧ RefThen w g gB cap (.slice (some ⟨gd, 0, none⟩) a.L.length cp) (a.put k s.data.toList).1 w' := by
  have hf := hg.fit
  have hn := hf.n
  have hsl : s.data.toList.length = s.size := by simp
  have GP := Lib.hid fun W hW => refGap_any g gB cap (.slice (some ⟨gd, 0, none⟩) a.L.length cp) a W hf hW
  have FR := Lib.hid fun W hW => refFree_any g gB cap (.slice (some ⟨gd, 0, none⟩) a.L.length cp) a W hg hW
  have CP := Lib.hid fun W hW => refCompact_any g gB cap (.slice (some ⟨gd, 0, none⟩) a.L.length cp) a W hg hW
  have H := Lib.hid h
  have hgl := blk_lt h.own
  have c2 := h.c2
  obtain ⟨_, cp', hcpe, hcp, hcm, _⟩ := dir_form h.dir
  obtain rfl : cp = cp' := by injection hcpe
  clear hcpe
  unfold maxLen at hcm
  clear h
  unfold Ar.put
  by_cases h0 : k < 0
  · rw [if_pos (.inl h0)]
    go_enter Try.func102, Try.ntmps102
    go_wp2_with fail
    go_ret
    exact ⟨rfl, RefThen.stay H.out (Below.refl _ _)⟩
  by_cases h1 : (a.L.length : Int) < k
  · rw [if_pos (.inr h1)]
    skip
    go_enter Try.func102, Try.ntmps102
    go_wp2_with fail
    go_ret
    exact ⟨rfl, RefThen.stay H.out (Below.refl _ _)⟩
  obtain ⟨k, rfl⟩ := Int.eq_ofNat_of_zero_le (Int.not_lt.1 h0)
  rw [if_neg (by omega)]
  have hkn : k ≤ a.L.length := by omega
  clear h0 h1
  have n1 : IntKind.i64.wrap ((s.size : Int) + 4) = (s.size : Int) + 4 := IntWalk.i64_in _ ⟨by omega, by omega⟩
  by_cases h2 : a.free < (s.size : Int) + 4
  · rw [if_pos (by rw [hsl]; exact h2)]
    go_enter Try.func102, Try.ntmps102
    go_wp2_with fail
    refine (FR.out _ H.out).mono ?_
    rintro e w1 ⟨rfl, h1⟩
    go_wp2_with fail
    go_ret
    exact ⟨rfl, RefThen.stay H.out h1⟩
  rw [if_neg (by rw [hsl]; exact h2)]
  have hro := hg.roomy (s.size + 4) (by omega)
  have hrb : Hid ((a.roomy (s.data.toList.length + 4)).putIn (k : Int).toNat s.data.toList = (a.roomy (s.size + 4)).putIn k s.data.toList) := by show _ = _; rw [hsl]; rfl
  have hrd : Hid (a.roomy (s.size + 4) = if a.gap < ((s.size + 4 : Nat) : Int) then a.compact else a) := rfl
  generalize a.roomy (s.size + 4) = b at *
  obtain ⟨hbg, _, hbn, hroom, hbB⟩ := hro
  have hbf := hbg.fit
  have hbl := hbf.l
  have hbh := hbf.hi
  obtain ⟨lo, hlo⟩ : ∃ x, x = b.low - s.size := ⟨_, rfl⟩
  have BL : Hid (∀ W, RefAt W g gB cap (.slice (some ⟨gd, 0, none⟩) a.L.length cp) b → Calls Try.prog 169 #[.pointer (some ⟨g, 0, none⟩), .string s] W fun e w' => e = .returned (.agg #[.int .i64 (lo : Int), .int .i64 (s.size : Nat)]) ∧ RefAt w' g gB cap (.slice (some ⟨gd, 0, none⟩) a.L.length cp) (b.below s.data.toList) ∧ OthersKept W w' (fun k => k = g ∨ k = gB)) := by
    show ∀ W, _
    intro W hW
    have := refBelow_any g gB cap (.slice (some ⟨gd, 0, none⟩) a.L.length cp) b s W hbf (by omega) hW
    rw [← hlo] at this
    exact this
  have Hlo := Lib.hid hlo
  have HB := Lib.hid hbB
  have HN := Lib.hid hbn
  obtain ⟨i0, hi0, hz0, hz1, hz2⟩ := info_parts (P := Try.prog) (e := 192) (z := .agg #[.int .i64 0, .int .i64 0]) (size := 2) (bytes := 16) (by kernel_rfl)
  clear hlo hroom hbg hbf hbB hbn
  go_enter Try.func102, Try.ntmps102
  go_wp2_with fail
  refine (FR.out _ H.out).mono ?_
  rintro e w1 ⟨rfl, h1⟩
  have HA1 := Lib.hid (H.out.below h1)
  have HB1 := Lib.hid h1
  clear h1 c2
  go_wp2_with fail
  refine (GP.out _ HA1.out).mono ?_
  rintro e w2 ⟨rfl, h2⟩
  have HA2 := Lib.hid (HA1.out.below h2)
  have HB2 := Lib.hid (below_then HB1.out h2)
  clear h2
  go_upto_if 31 with fail
  go_cut [] (fun w' => RefAt w' g gB cap (.slice (some ⟨gd, 0, none⟩) a.L.length cp) b ∧ OthersKept w w' (refOwn g gB (.slice (some ⟨gd, 0, none⟩) a.L.length cp)))
  case first =>
    by_cases h3 : a.gap < (s.size : Int) + 4
    · have HBE : Hid (b = a.compact) := by show _ = _; rw [hrd.out, if_pos (by omega)]
      go_wp2_with fail
      refine (CP.out _ HA2.out).mono ?_
      rintro e w3 ⟨rfl, hA3, hK3⟩
      have HA3 := Lib.hid hA3
      have HK3 := Lib.hid ((OthersKept.of_below HB2.out).trans hK3 (fun _ _ h => h))
      clear hA3 hK3
      go_wp2_with fail
      go_meet
      rw [HBE.out]
      exact ⟨HA3.out, HK3.out⟩
    · have HBE : Hid (b = a) := by show _ = _; rw [hrd.out, if_neg (by omega)]
      go_wp2_with fail
      go_meet
      rw [HBE.out]
      exact ⟨HA2.out, OthersKept.of_below HB2.out⟩
  case rest =>
    obtain ⟨hA, hK⟩ := hcut
    have HA := Lib.hid hA
    have HK := Lib.hid hK
    clear hA hK
    go_wp2_with fail
    refine (BL.out _ HA.out).mono ?_
    rintro e w5 ⟨rfl, hA5, hK5⟩
    have HA5 := Lib.hid hA5
    have HK5 := Lib.hid (HK.out.trans hK5 (fun k _ h => by rcases h with h | h <;> simp [refOwn, h]))
    clear hA5 hK5
    have c5 := HA5.out.c2
    have hg5 := blk_lt HA5.out.own
    have hgB5 := HA5.out.row.lt
    have HB7 : Hid (Below w5.heap.size w5 ((w5.alloc (.cells #[.int .i64 (lo : Int), .int .i64 (s.size : Nat)] 192)).alloc (.cells #[] 192))) := ((Below.refl _ _).alloc (Nat.le_refl _) _).alloc (by simp) _
    have HB6 : Hid (((w5.alloc (.cells #[.int .i64 (lo : Int), .int .i64 (s.size : Nat)] 192)).alloc (.cells #[] 192)).heap[w5.heap.size]? = some (.cells #[.int .i64 (lo : Int), .int .i64 (s.size : Nat)] 192)) := heap_keep (heap_alloc_new w5 _)
    have HO7 : Hid (((w5.alloc (.cells #[.int .i64 (lo : Int), .int .i64 (s.size : Nat)] 192)).alloc (.cells #[] 192)).ownsRow (w5.heap.size + 1) 192 2 (.slice (some ⟨w5.heap.size + 1, 0, none⟩) 0 0) 0 []) := by
      show World.ownsRow _ _ _ _ _ _ _
      have := own_empty2 (w5.alloc (.cells #[.int .i64 (lo : Int), .int .i64 (s.size : Nat)] 192)) 192
      have e : (w5.alloc (.cells #[.int .i64 (lo : Int), .int .i64 (s.size : Nat)] 192)).heap.size = w5.heap.size + 1 := by simp
      rw [e] at this
      exact this
    have HKN := Lib.hid hkn
    have ONE : Hid (∀ u ∈ [Value.int .i64 (lo : Int), .int .i64 (s.size : Nat)], u.oneCell' = true) := by
      show ∀ u ∈ _, _
      rw [← one_place]
      exact places_one _
    have HKC : Hid (cp = k → a.L.length = k) := by show _ → _; intro h; omega
    have D : w5.ownsRow 0 192 2 (.slice (some ⟨gd, 0, none⟩) a.L.length cp) b.L.length (places b.L) := HA5.out.dir
    rw [HN.out] at D
    have HD := Lib.hid D
    clear D
    have q2 : (0 : Int) ≤ (k : Int) := by omega
    have q3 : (k : Int) ≤ (cp : Int) := by omega
    have q4 : (k : Int) ≤ (a.L.length : Int) := by omega
    go_wp2_with (at_builtin; refine wpList_append_any _ rfl (.tmp 37) (.tmp 43) 149 rfl (w5.heap.size + 1) 192 i0 (.agg #[.int .i64 0, .int .i64 0]) 2 16 Try.underlying149 hi0 hz0 hz1 hz2 rfl (by decide) (.slice (some ⟨w5.heap.size + 1, 0, none⟩) 0 0) (0) ([]) (by rfl) (HO7.out) (.slice (some ⟨gd, 0, none⟩) k cp) (k) ((places b.L).take (k * 2)) (by rfl) ((reads_take HD.out k cp HKN.out).below HB7.out) (by rw [places_take]; exact places_one _) (by unfold maxLen; omega) (by omega) (by simp) ?_; intro v8 w8 ho8 hg8; refine Aside.out ?_)
    have HO8 := Lib.hid ho8
    have b8 : w8.heap[w5.heap.size]? = some (.cells #[.int .i64 (lo : Int), .int .i64 (s.size : Nat)] 192) := (hg8.block _ (blk_lt HB6.out) (by simp [Value.ownBlock])).trans HB6.out
    have p0 := blk_cell b8 0
    have p1 := blk_cell b8 1
    have HB8 := Lib.hid (below_own HB7.out HO7.out (by omega) hg8)
    have HS8 : Hid (w5.heap.size + 1 ≤ (w8.alloc (.cells #[.int .i64 (lo : Int), .int .i64 (s.size : Nat)] 192)).heap.size) := by
      show _ ≤ _
      have := hg8.size
      simp at this ⊢
      omega
    have HB9 := Lib.hid (HB8.out.alloc HB8.out.size (.cells #[.int .i64 (lo : Int), .int .i64 (s.size : Nat)] 192))
    clear ho8 hg8 b8
    unfold Aside
    go_wp2_with (at_builtin; refine wpList_append_any _ rfl (.tmp 45) (.tmp 47) 149 rfl (w5.heap.size + 1) 192 i0 (.agg #[.int .i64 0, .int .i64 0]) 2 16 Try.underlying149 hi0 hz0 hz1 hz2 rfl (by decide) v8 (0 + k) ([] ++ (places b.L).take (k * 2)) (by rfl) (HO8.out.alloc _) (.slice (some ⟨w8.heap.size, 0, none⟩) 1 1) (1) ([.int .i64 (lo : Int), .int .i64 (s.size : Nat)]) (by rfl) (reads_one2 _ _ _ _ _) (ONE.out) (by unfold maxLen; omega) (by omega) (HS8.out) ?_; intro v10 w10 ho10 hg10; refine Aside.out ?_)
    have HO10 := Lib.hid ho10
    have HB10 := Lib.hid (below_own HB9.out (HO8.out.alloc _) (by omega) hg10)
    have HS10 : Hid (w5.heap.size + 1 ≤ w10.heap.size) := Nat.le_trans HS8.out hg10.size
    have c10 := (HA5.out.below HB10.out).c2
    clear ho10 hg10 p0 p1
    unfold Aside
    go_wp2_with (at_builtin; refine wpList_append_any _ rfl (.tmp 49) (.tmp 55) 149 rfl (w5.heap.size + 1) 192 i0 (.agg #[.int .i64 0, .int .i64 0]) 2 16 Try.underlying149 hi0 hz0 hz1 hz2 rfl (by decide) v10 (0 + k + 1) ([] ++ (places b.L).take (k * 2) ++ [.int .i64 (lo : Int), .int .i64 (s.size : Nat)]) (by rfl) (HO10.out) (.slice (if cp = k then some ⟨gd, 0, none⟩ else some ⟨gd, k * 2, none⟩) (a.L.length - k) (cp - k)) (a.L.length - k) ((places b.L).drop (k * 2)) (by rfl) ((reads_drop HD.out k (cp - k) HKN.out (fun h => HKC.out h)).below HB10.out) (by rw [places_drop]; exact places_one _) (by unfold maxLen; omega) (by omega) (HS10.out) ?_; intro v11 w11 ho11 hg11; refine Aside.out ?_)
    all_goals
      have HB11 := Lib.hid (below_own HB10.out HO10.out (by omega) hg11)
      have HA11 := Lib.hid (HA5.out.below HB11.out)
      have c11 := HA11.out.c2
      have f11 := blk_frozen HA11.out.own 2
      have HL11 : Hid ([] ++ (places b.L).take (k * 2) ++ [.int .i64 (lo : Int), .int .i64 (s.size : Nat)] ++ (places b.L).drop (k * 2) = places (b.L.take k ++ (lo, s.size) :: b.L.drop k)) := by
        show _ = _
        rw [places_take, places_drop, places_append, List.nil_append, List.append_assoc]; rfl
      have HN11 : Hid (0 + k + 1 + (a.L.length - k) = (b.L.take k ++ (lo, s.size) :: b.L.drop k).length) := by
        show _ = _
        have := HN.out
        have := HKN.out
        rw [List.length_append, List.length_cons, List.length_take, List.length_drop]
        omega
      rw [HL11.out, HN11.out] at ho11
      have hfr : Hid (∀ x, v11.ownBlock = some x → w.heap.size ≤ x) := by
        show ∀ x, _
        intro x hx
        have := (ho11.lt x hx).1
        have := HK5.out.size
        omega
      have HR := Lib.hid (HA11.out.new_dir ho11 (by omega) (by omega))
      obtain ⟨b11, cp11, rfl, _, _, _⟩ := dir_form ho11
      have HKf := Lib.hid ((HK5.out.trans (OthersKept.of_below (p := fun _ => False) HB11.out) (fun _ _ h => absurd h id)).trans (OthersKept.of_grown (p := fun x => x = g) (g := g) (grown_set (i := 2) (u := .slice b11 (b.L.take k ++ (lo, s.size) :: b.L.drop k).length cp11) (grown_refl _ g)) rfl) (fun _ _ h => .inl h))
      clear ho11 hg11
      generalize (b.L.take k ++ (lo, s.size) :: b.L.drop k).length = NN at *
      unfold Aside
      go_wp2_with fail
      go_ret
      have he : (a.roomy (s.data.toList.length + 4)).putIn (k : Int).toNat s.data.toList = { b.below s.data.toList with L := b.L.take k ++ (lo, s.size) :: b.L.drop k } := by
        rw [hrb.out, Hlo.out, ← hsl]
        rfl
      rw [he]
      exact ⟨rfl, _, HR.out, HKf.out, fun x hx => .inr (hfr.out x hx)⟩


theorem refPut_any (g gB cap : Nat) (v : Value) (a : Ar) (k : Int) (s : ByteArray) (w : World) (hg : a.Good) (hs : s.size ≤ 100000) (h : RefAt w g gB cap v a) :
    Calls Try.prog 102 #[.pointer (some ⟨g, 0, none⟩), .int .i64 k, .string s] w fun e w' => e = .returned (.int .i64 (a.put k s.data.toList).2) ∧ RefThen w g gB cap v (a.put k s.data.toList).1 w' := by
  rcases h.dir.2 with ⟨rfl, hn⟩ | ⟨gd, cp, cur, rfl, _⟩
  · exact refPut_nil g gB cap a k s w hg hs hn h
  · exact refPut_row g gB cap gd cp a k s w hg hs h

end Go.Proofs.Ytienlhnbmobinaa
