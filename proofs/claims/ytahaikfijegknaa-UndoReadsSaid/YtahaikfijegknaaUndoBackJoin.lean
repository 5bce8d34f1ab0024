/- UndoBack: the walks joined -/
import Derived.Test.YtahaikfijegknaaRows
import Derived.Test.YtahaikfijegknaaUndoBackPlain
import Derived.Test.YtahaikfijegknaaUndoRefDecode
import Derived.Test.YtahaikfijegknaaUndoBackWalk1
import Derived.Test.YtahaikfijegknaaUndoBackWalk2
import Derived.WalkKit
import Derived.WalkLawsBesides
import Derived.WalkSpells
import Derived.LoopTactic
import Derived.WalkMore
import Derived.LoopN
import Derived.Laws.BitsAllLaws
import Derived.Laws.IdiomStrings
import Derived.BigQuiet
import Derived.Deep.QuietTactic
import Derived.Deep.DeepCutAuto
import Derived.Deep.RegionHeld3
import Derived.Deep.DrawnRows
import Derived.Lib.Hide
import Derived.Outline
import Derived.Deep.DeepMust
import Derived.Handy
namespace Go.Proofs.Ytahaikfijegknaa
open Go.RowKit
set_option linter.unusedVariables false
set_option linter.unusedSimpArgs false

theorem undoEncode_yes (kd x pg sl : Nat) (y k v : ByteArray) (m : Bool) (t p s : Nat) (d : Int) (w : World) (hy : y.size ≤ maxLen) (hk : k.size ≤ maxLen) (hv : v.size ≤ maxLen) (hx : x < 256 ^ 8) (hsl : sl < 256 ^ 2) (ht : t < 256 ^ 8) (hs : s < 256 ^ 2) (hm : mayUndo kd x pg sl y k m t p s v d = true) :
    Calls Try.prog 38 #[.agg #[.int .u8 kd, .int .u64 x, .int .u32 pg, .int .u16 sl, .string y, .string k, .bool m, .int .u64 t, .int .u32 p, .int .u16 s, .string v, .int .i64 d]] w fun e w' => e = .returned (.tuple #[.string ⟨(encUndo kd x pg sl y.data.toList k.data.toList m t p s v.data.toList d).toArray⟩, .int .i64 0]) ∧ Below w.heap.size w w' := by
  rcases (mayUndo_kind hm).2 with ⟨h1, _⟩ | ⟨h2, _, hr⟩
  · exact undoEncode_1 kd x pg sl y k v m t p s d w hy hk hv hx hsl ht hs h1 hm
  · obtain ⟨dd, hdd⟩ := Int.eq_ofNat_of_zero_le (mayRow_iff.1 hr).2.2.1
    subst hdd
    exact undoEncode_2 kd x pg sl y k v m t p s dd w hy hk hv hx hsl ht hs h2 hm

theorem undo_back (kd x pg sl : Nat) (y k v : ByteArray) (m : Bool) (t p s : Nat) (d : Int) (w : World) (hx : x < 256 ^ 8) (hsl : sl < 256 ^ 2) (ht : t < 256 ^ 8) (hs : s < 256 ^ 2) (hm : mayUndo kd x pg sl y k m t p s v d = true) :
    Calls Try.prog 43 #[.string ⟨(encUndo kd x pg sl y.data.toList k.data.toList m t p s v.data.toList d).toArray⟩] w fun e w' => e = .returned (.tuple #[.agg #[.int .u8 kd, .int .u64 x, .int .u32 pg, .int .u16 sl, .string y, .string k, .bool m, .int .u64 t, .int .u32 p, .int .u16 s, .string v, .int .i64 d], .int .i64 0]) ∧ Below w.heap.size w w' := by
  have h := undoDecode_any ⟨(encUndo kd x pg sl y.data.toList k.data.toList m t p s v.data.toList d).toArray⟩ w (by have := encU_size kd x pg sl y k m t p s v d hm; omega)
  rw [show (⟨(encUndo kd x pg sl y.data.toList k.data.toList m t p s v.data.toList d).toArray⟩ : ByteArray).data.toList = encUndo kd x pg sl y.data.toList k.data.toList m t p s v.data.toList d from rfl, decUV_enc kd x pg sl y k m t p s v d hx hsl ht hs hm] at h
  exact h

theorem undo_read (z : ByteArray) (hz : z.size ≤ 1000000) :
    (∀ W, Calls Try.prog 43 #[.string z] W fun e w' => e = .returned (.tuple #[.agg #[.int .u8 0, .int .u64 0, .int .u32 0, .int .u16 0, .string ⟨#[]⟩, .string ⟨#[]⟩, .bool false, .int .u64 0, .int .u32 0, .int .u16 0, .string ⟨#[]⟩, .int .i64 0], .int .i64 7]) ∧ Below W.heap.size W w') ∨
    ∃ (kd x pg sl : Nat) (y k v : ByteArray) (m : Bool) (t p s : Nat) (d : Int), (∀ W, Calls Try.prog 43 #[.string z] W fun e w' => e = .returned (.tuple #[.agg #[.int .u8 kd, .int .u64 x, .int .u32 pg, .int .u16 sl, .string y, .string k, .bool m, .int .u64 t, .int .u32 p, .int .u16 s, .string v, .int .i64 d], .int .i64 0]) ∧ Below W.heap.size W w') ∧
      ∀ W, Calls Try.prog 38 #[.agg #[.int .u8 kd, .int .u64 x, .int .u32 pg, .int .u16 sl, .string y, .string k, .bool m, .int .u64 t, .int .u32 p, .int .u16 s, .string v, .int .i64 d]] W fun e w' => e = .returned (.tuple #[.string z, .int .i64 0]) ∧ Below W.heap.size W w' := by
  have hlen : z.data.toList.length = z.size := by simp
  have h := fun W => undoDecode_any z W hz
  cases ho : decUOk z.data.toList with
  | false =>
    rw [show decUV z.data.toList = zUV by unfold decUV; rw [ho]; rfl] at h
    exact .inl h
  | true =>
    unfold decUV at h
    rw [if_pos ho] at h
    have hb := encU_back ho
    unfold decUOk at ho
    simp only [Bool.and_eq_true, decide_eq_true_eq] at ho
    obtain ⟨z1, z2, z3, z4, z5⟩ := wsz z.data.toList
    have l2 := rdNum_lt z.data.toList 1 8
    have l4 := rdNum_lt z.data.toList 13 2
    refine .inr ⟨_, _, _, _, _, _, _, _, _, _, _, _, h, fun W => ?_⟩
    have e := undoEncode_yes _ _ _ _ _ _ _ _ _ _ _ _ W (by unfold maxLen; omega) (by unfold maxLen; omega) (by unfold maxLen; omega) l2 (by simpa using l4) z4 z5 ho.2
    rw [hb] at e
    exact e

theorem heavy_hid (kd x pg sl : Nat) (y k v : ByteArray) (m : Bool) (t p s : Nat) (d : Int) (hy : y.size ≤ maxLen) (hk : k.size ≤ maxLen) (hv : v.size ≤ maxLen) (b : Bool) (hb : decide (1024 < wrap64 (wrap64 ((y.size : Int) + k.size) + v.size)) = b) :
    Hid (∀ W, Calls Try.prog 36 #[.agg #[.int .u8 kd, .int .u64 x, .int .u32 pg, .int .u16 sl, .string y, .string k, .bool m, .int .u64 t, .int .u32 p, .int .u16 s, .string v, .int .i64 d]] W fun e w' => e = .returned (.bool b) ∧ Below W.heap.size W w') := by
  subst hb
  exact fun W => heavy_any kd x pg sl y k v m t p s d W hy hk hv

theorem eqUndo_self (kd x pg sl : Int) (y k v : ByteArray) (m : Bool) (t p s d : Int) : ∀ W, (binOp .eql 58 (.agg #[.int .u8 kd, .int .u64 x, .int .u32 pg, .int .u16 sl, .string y, .string k, .bool m, .int .u64 t, .int .u32 p, .int .u16 s, .string v, .int .i64 d]) (.agg #[.int .u8 kd, .int .u64 x, .int .u32 pg, .int .u16 sl, .string y, .string k, .bool m, .int .u64 t, .int .u32 p, .int .u16 s, .string v, .int .i64 d])).run Try.prog W = .ok (.bool true) W := by
  intro W
  rw [eqUndo]
  simp
theorem neUndo_self (kd x pg sl : Int) (y k v : ByteArray) (m : Bool) (t p s d : Int) : ∀ W, (binOp .neq 58 (.agg #[.int .u8 kd, .int .u64 x, .int .u32 pg, .int .u16 sl, .string y, .string k, .bool m, .int .u64 t, .int .u32 p, .int .u16 s, .string v, .int .i64 d]) (.agg #[.int .u8 kd, .int .u64 x, .int .u32 pg, .int .u16 sl, .string y, .string k, .bool m, .int .u64 t, .int .u32 p, .int .u16 s, .string v, .int .i64 d])).run Try.prog W = .ok (.bool false) W := by
  intro W
  simp [go_sem]
theorem eqUndo_zero : ∀ W, (binOp .eql 58 (.agg #[.int .u8 0, .int .u64 0, .int .u32 0, .int .u16 0, .string ⟨#[]⟩, .string ⟨#[]⟩, .bool false, .int .u64 0, .int .u32 0, .int .u16 0, .string ⟨#[]⟩, .int .i64 0]) (.agg #[.int .u8 0, .int .u64 0, .int .u32 0, .int .u16 0, .string ⟨#[]⟩, .string ⟨#[]⟩, .bool false, .int .u64 0, .int .u32 0, .int .u16 0, .string ⟨#[]⟩, .int .i64 0])).run Try.prog W = .ok (.bool true) W := by
  intro W
  simp [go_sem]

theorem undoBack_any (kd x pg sl kd' x' pg' sl' : Nat) (y k v y' k' v' : ByteArray) (m m' : Bool) (t t' p p' s s' : Nat) (d d' : Int) (z : ByteArray) (w : World) (hy : y.size ≤ maxLen) (hk : k.size ≤ maxLen) (hv : v.size ≤ maxLen) (hx : x < 256 ^ 8) (hsl : sl < 256 ^ 2) (ht : t < 256 ^ 8) (hs : s < 256 ^ 2) (hy' : y'.size ≤ maxLen) (hk' : k'.size ≤ maxLen) (hv' : v'.size ≤ maxLen) (hx' : x' < 256 ^ 8) (hsl' : sl' < 256 ^ 2) (ht' : t' < 256 ^ 8) (hs' : s' < 256 ^ 2) : Calls Try.prog 12 #[.agg #[.int .u8 kd, .int .u64 x, .int .u32 pg, .int .u16 sl, .string y, .string k, .bool m, .int .u64 t, .int .u32 p, .int .u16 s, .string v, .int .i64 d], .agg #[.int .u8 kd', .int .u64 x', .int .u32 pg', .int .u16 sl', .string y', .string k', .bool m', .int .u64 t', .int .u32 p', .int .u16 s', .string v', .int .i64 d'], .string z] w fun e w' => e = .returned (.bool true) ∧ Below w.heap.size w w' := by
  cases hl1 : decide (1024 < wrap64 (wrap64 ((y.size : Int) + k.size) + v.size)) with
  | true => exact undoBack_heavy1 kd x pg sl kd' x' pg' sl' y k v y' k' v' m m' t t' p p' s s' d d' z w (heavy_hid kd x pg sl y k v m t p s d hy hk hv _ hl1)
  | false =>
    have H1 := heavy_hid kd x pg sl y k v m t p s d hy hk hv _ hl1
    cases hl2 : decide (1024 < wrap64 (wrap64 ((y'.size : Int) + k'.size) + v'.size)) with
    | true => exact undoBack_heavy2 kd x pg sl kd' x' pg' sl' y k v y' k' v' m m' t t' p p' s s' d d' z w H1 (heavy_hid kd' x' pg' sl' y' k' v' m' t' p' s' d' hy' hk' hv' _ hl2)
    | false =>
      have H2 := heavy_hid kd' x' pg' sl' y' k' v' m' t' p' s' d' hy' hk' hv' _ hl2
      by_cases hz : 1024 < (z.size : Int)
      · exact undoBack_heavy3 kd x pg sl kd' x' pg' sl' y k v y' k' v' m m' t t' p p' s s' d d' z w H1 H2 hz
      · have hz' : (z.size : Int) ≤ 1024 := by omega
        have hzz : (z.toList == z.toList) = true := by simp
        have RD := undo_read z (by omega)
        cases hm : mayUndo kd x pg sl y k m t p s v d with
        | false =>
          have E1 := Lib.hid fun W => undoEncode_no kd x pg sl y k v m t p s d W hy hk hv hm
          obtain ⟨Y, q, E2⟩ : ∃ Y q, Hid (∀ W, Calls Try.prog 38 #[.agg #[.int .u8 kd', .int .u64 x', .int .u32 pg', .int .u16 sl', .string y', .string k', .bool m', .int .u64 t', .int .u32 p', .int .u16 s', .string v', .int .i64 d']] W fun e w' => e = .returned (.tuple #[.string Y, .int .i64 q]) ∧ Below W.heap.size W w') := by
            cases hm' : mayUndo kd' x' pg' sl' y' k' m' t' p' s' v' d' with
            | false => exact ⟨_, _, fun W => undoEncode_no kd' x' pg' sl' y' k' v' m' t' p' s' d' W hy' hk' hv' hm'⟩
            | true => exact ⟨_, _, fun W => undoEncode_yes kd' x' pg' sl' y' k' v' m' t' p' s' d' W hy' hk' hv' hx' hsl' ht' hs' hm'⟩
          rcases RD with h | ⟨kd2, x2, pg2, sl2, y2, k2, v2, m2, t2, p2, s2, d2, h, g⟩
          · exact undoBack_no_bad kd x pg sl kd' x' pg' sl' y k v y' k' v' m m' t t' p p' s s' d d' z w _ _ q H1 H2 hz' E1 E2 (Lib.hid h) eqUndo_zero
          · exact undoBack_no_good kd x pg sl kd' x' pg' sl' y k v y' k' v' m m' t t' p p' s s' d d' z w _ _ q H1 H2 hz' E1 E2 kd2 x2 pg2 sl2 y2 k2 v2 m2 t2 p2 s2 d2 (Lib.hid h) (Lib.hid g) hzz
        | true =>
          have E1 := Lib.hid fun W => undoEncode_yes kd x pg sl y k v m t p s d W hy hk hv hx hsl ht hs hm
          have D1 := Lib.hid fun W => undo_back kd x pg sl y k v m t p s d W hx hsl ht hs hm
          have hS := eqUndo_self kd x pg sl y k v m t p s d
          have hN := neUndo_self kd x pg sl y k v m t p s d
          cases hm' : mayUndo kd' x' pg' sl' y' k' m' t' p' s' v' d' with
          | false =>
            have E2 := Lib.hid fun W => undoEncode_no kd' x' pg' sl' y' k' v' m' t' p' s' d' W hy' hk' hv' hm'
            rcases RD with h | ⟨kd2, x2, pg2, sl2, y2, k2, v2, m2, t2, p2, s2, d2, h, g⟩
            · exact undoBack_yn_bad kd x pg sl kd' x' pg' sl' y k v y' k' v' m m' t t' p p' s s' d d' z w _ _ 0 H1 H2 hz' E1 E2 D1 hS hN (Lib.hid h) eqUndo_zero
            · exact undoBack_yn_good kd x pg sl kd' x' pg' sl' y k v y' k' v' m m' t t' p p' s s' d d' z w _ _ 0 H1 H2 hz' E1 E2 D1 hS hN kd2 x2 pg2 sl2 y2 k2 v2 m2 t2 p2 s2 d2 (Lib.hid h) (Lib.hid g) hzz
          | true =>
            have E2 := Lib.hid fun W => undoEncode_yes kd' x' pg' sl' y' k' v' m' t' p' s' d' W hy' hk' hv' hx' hsl' ht' hs' hm'
            have hXY := encU_eq kd x pg sl y k m t p s v d kd' x' pg' sl' y' k' m' t' p' s' v' d' hx hsl ht hs hm hx' hsl' ht' hs' hm'
            have hE := fun W => eqUndo kd x pg sl kd' x' pg' sl' y k v y' k' v' m m' t t' p p' s s' d d' W
            have sX := encU_size kd x pg sl y k m t p s v d hm
            have sY := encU_size kd' x' pg' sl' y' k' m' t' p' s' v' d' hm'
            rcases RD with h | ⟨kd2, x2, pg2, sl2, y2, k2, v2, m2, t2, p2, s2, d2, h, g⟩
            · exact undoBack_yy_bad kd x pg sl kd' x' pg' sl' y k v y' k' v' m m' t t' p p' s s' d d' z w _ _ 0 H1 H2 hz' E1 E2 D1 _ hXY hE sX sY hS hN (Lib.hid h) eqUndo_zero
            · exact undoBack_yy_good kd x pg sl kd' x' pg' sl' y k v y' k' v' m m' t t' p p' s s' d d' z w _ _ 0 H1 H2 hz' E1 E2 D1 _ hXY hE sX sY hS hN kd2 x2 pg2 sl2 y2 k2 v2 m2 t2 p2 s2 d2 (Lib.hid h) (Lib.hid g) hzz

end Go.Proofs.Ytahaikfijegknaa
