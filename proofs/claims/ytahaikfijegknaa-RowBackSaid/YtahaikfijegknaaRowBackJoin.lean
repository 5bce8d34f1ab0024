/- The walk of the law RowBack: it returns true, and nothing that was there is changed. -/
import Derived.Test.YtahaikfijegknaaRows
import Derived.Test.YtahaikfijegknaaRowBackWalk
import Derived.WalkKit
import Derived.WalkLawsBesides
import Derived.WalkSpells
import Derived.LoopTactic
import Derived.WalkMore
import Derived.LoopN
import Derived.Laws.BitsAllLaws
import Derived.Laws.IdiomStrings
import Derived.BigQuiet
import Derived.Deep.QuietTactic
import Derived.Deep.DeepCutAuto
import Derived.Deep.RegionHeld3
import Derived.Deep.DrawnRows
import Derived.Lib.Hide
import Derived.Outline
import Derived.Deep.DeepMust
import Derived.Handy
namespace Go.Proofs.Ytahaikfijegknaa
open Go.RowKit
set_option linter.unusedVariables false
set_option linter.unusedSimpArgs false

theorem row_bytes (k v : ByteArray) (m : Bool) (t p s d : Nat) (h : mayRow k.size v.size p s (d : Int) = true) : (⟨(encRow k.data.toList v.data.toList m t p s d).toArray⟩ : ByteArray).size ≤ 1000000 := by
  have := mayRow_iff.1 h
  rw [encRow_size]
  simp
  omega

theorem row_back (k v : ByteArray) (m : Bool) (t p s d : Nat) (ht : t < 256 ^ 8) (hs : s < 256 ^ 2) (h : mayRow k.size v.size p s (d : Int) = true) (W : World) :
    Calls Try.prog 30 #[.string ⟨(encRow k.data.toList v.data.toList m t p s d).toArray⟩] W fun e w' => e = .returned (.tuple #[.agg #[.string k, .bool m, .int .u64 t, .int .u32 p, .int .u16 s, .string v, .int .i64 d], .int .i64 0]) ∧ Below W.heap.size W w' := by
  have h1 := rowDecode_any ⟨(encRow k.data.toList v.data.toList m t p s d).toArray⟩ W (row_bytes k v m t p s d h)
  rw [show (⟨(encRow k.data.toList v.data.toList m t p s d).toArray⟩ : ByteArray).data.toList = encRow k.data.toList v.data.toList m t p s d from rfl, decV_encRow _ _ m t p s d ht hs (by simpa using h)] at h1
  simpa using h1

/-- What is read of bytes: nothing, or a row that is written as these bytes. -/
theorem row_read (z : ByteArray) (hz : z.size ≤ 1000000) :
    (∀ W, Calls Try.prog 30 #[.string z] W fun e w' => e = .returned (.tuple #[.agg #[.string ⟨#[]⟩, .bool false, .int .u64 0, .int .u32 0, .int .u16 0, .string ⟨#[]⟩, .int .i64 0], .int .i64 7]) ∧ Below W.heap.size W w') ∨
    ∃ (k v : ByteArray) (m : Bool) (t p s d : Nat), (∀ W, Calls Try.prog 30 #[.string z] W fun e w' => e = .returned (.tuple #[.agg #[.string k, .bool m, .int .u64 t, .int .u32 p, .int .u16 s, .string v, .int .i64 d], .int .i64 0]) ∧ Below W.heap.size W w') ∧
      ∀ W, Calls Try.prog 25 #[.agg #[.string k, .bool m, .int .u64 t, .int .u32 p, .int .u16 s, .string v, .int .i64 d]] W fun e w' => e = .returned (.tuple #[.string z, .int .i64 0]) ∧ Below W.heap.size W w' := by
  have h1 := fun W => rowDecode_any z W hz
  unfold decV at h1
  cases hd : decOk z.data.toList with
  | false =>
    rw [hd] at h1
    exact .inl h1
  | true =>
    rw [hd] at h1
    obtain ⟨hm, he⟩ := decOk_row _ hd
    have hr := mayRow_iff.1 hm
    obtain ⟨d, hpad⟩ := Int.eq_ofNat_of_zero_le hr.2.2.1
    rw [hpad] at h1 hm he
    rw [Int.toNat_natCast] at he
    refine .inr ⟨⟨(dK z.data.toList).toArray⟩, ⟨(dV z.data.toList).toArray⟩, decide (0 < rdNum z.data.toList 0 1), rdNum z.data.toList 1 8, rdNum z.data.toList 9 4, rdNum z.data.toList 13 2, d, h1, fun W => ?_⟩
    have h2 := rowEncode_yes ⟨(dK z.data.toList).toArray⟩ ⟨(dV z.data.toList).toArray⟩ (decide (0 < rdNum z.data.toList 0 1)) (rdNum z.data.toList 1 8) (rdNum z.data.toList 9 4) (rdNum z.data.toList 13 2) d W
      (by show (dK z.data.toList).toArray.size ≤ maxLen; unfold maxLen; simp; omega) (by show (dV z.data.toList).toArray.size ≤ maxLen; unfold maxLen; simp; omega) (rdNum_lt _ _ _) (rdNum_lt _ _ _) hm
    rw [show (⟨(dK z.data.toList).toArray⟩ : ByteArray).data.toList = dK z.data.toList from rfl, show (⟨(dV z.data.toList).toArray⟩ : ByteArray).data.toList = dV z.data.toList from rfl, he] at h2
    simpa using h2

theorem rowBack_walk (k v k' v' : ByteArray) (m m' : Bool) (t t' p p' s s' : Nat) (d d' : Int) (z : ByteArray) (w : World) (hk : k.size ≤ maxLen) (hv : v.size ≤ maxLen) (ht : t < 256 ^ 8) (hs : s < 256 ^ 2) (hk' : k'.size ≤ maxLen) (hv' : v'.size ≤ maxLen) (ht' : t' < 256 ^ 8) (hs' : s' < 256 ^ 2) :
    Calls Try.prog 7 #[.agg #[.string k, .bool m, .int .u64 t, .int .u32 p, .int .u16 s, .string v, .int .i64 d], .agg #[.string k', .bool m', .int .u64 t', .int .u32 p', .int .u16 s', .string v', .int .i64 d'], .string z] w fun e w' => e = .returned (.bool true) ∧ Below w.heap.size w w' := by
  cases hl1 : longRow k v with
  | true => exact rowBack_long1 k v k' v' m m' t t' p p' s s' d d' z w hl1
  | false =>
  cases hl2 : longRow k' v' with
  | true => exact rowBack_long2 k v k' v' m m' t t' p p' s s' d d' z w hl1 hl2
  | false =>
  by_cases hz : 1024 < (z.size : Int)
  · exact rowBack_long3 k v k' v' m m' t t' p p' s s' d d' z w hl1 hl2 hz
  have hz := Int.not_lt.1 hz
  have l1 := fun W => long07 k v m t p s d W
  have l2 := fun W => long07 k' v' m' t' p' s' d' W
  rw [hl1] at l1
  rw [hl2] at l2
  have hr := row_read z (by omega)
  cases hm : mayRow k.size v.size p s d with
  | false =>
    have e1 := fun W => rowEncode_no k v m t p s d W hk hv hm
    obtain ⟨Y, q, e2⟩ : ∃ (Y : ByteArray) (q : Int), ∀ W, Calls Try.prog 25 #[.agg #[.string k', .bool m', .int .u64 t', .int .u32 p', .int .u16 s', .string v', .int .i64 d']] W fun e w' => e = .returned (.tuple #[.string Y, .int .i64 q]) ∧ Below W.heap.size W w' := by
      cases hm' : mayRow k'.size v'.size p' s' d' with
      | false => exact ⟨_, _, fun W => rowEncode_no k' v' m' t' p' s' d' W hk' hv' hm'⟩
      | true =>
        obtain ⟨n, rfl⟩ := Int.eq_ofNat_of_zero_le (mayRow_iff.1 hm').2.2.1
        exact ⟨_, _, fun W => rowEncode_yes k' v' m' t' p' s' n W hk' hv' ht' hs' hm'⟩
    rcases hr with d2 | ⟨k2, v2, m2, t2, p2, s2, d2, f2, g2⟩
    · exact rowBack_no_bad k v k' v' m m' t t' p p' s s' d d' z w _ _ _ hz l1 l2 e1 e2 d2
    · exact rowBack_no_good k v k' v' m m' t t' p p' s s' d d' z w _ _ _ hz l1 l2 e1 e2 k2 v2 m2 t2 p2 s2 d2 f2 g2
  | true =>
    obtain ⟨n, rfl⟩ := Int.eq_ofNat_of_zero_le (mayRow_iff.1 hm).2.2.1
    have e1 := fun W => rowEncode_yes k v m t p s n W hk hv ht hs hm
    have d1 := row_back k v m t p s n ht hs hm
    cases hm' : mayRow k'.size v'.size p' s' d' with
    | false =>
      have e2 := fun W => rowEncode_no k' v' m' t' p' s' d' W hk' hv' hm'
      rcases hr with d2 | ⟨k2, v2, m2, t2, p2, s2, d2, f2, g2⟩
      · exact rowBack_yn_bad k v k' v' m m' t t' p p' s s' n d' z w _ _ 0 hz l1 l2 e1 e2 d1 d2
      · exact rowBack_yn_good k v k' v' m m' t t' p p' s s' n d' z w _ _ 0 hz l1 l2 e1 e2 d1 k2 v2 m2 t2 p2 s2 d2 f2 g2
    | true =>
      obtain ⟨n', rfl⟩ := Int.eq_ofNat_of_zero_le (mayRow_iff.1 hm').2.2.1
      have e2 := fun W => rowEncode_yes k' v' m' t' p' s' n' W hk' hv' ht' hs' hm'
      have hXY := encRow_eq k v k' v' m m' t t' p p' s s' n n' ht ht' hs hs' hm hm'
      have hE := eqRow k k' v v' m m' t t' p p' s s' n n'
      rcases hr with d2 | ⟨k2, v2, m2, t2, p2, s2, d2, f2, g2⟩
      · exact rowBack_yy_bad k v k' v' m m' t t' p p' s s' n n' z w _ _ 0 hz l1 l2 e1 e2 d1 _ hXY hE d2
      · exact rowBack_yy_good k v k' v' m m' t t' p p' s s' n n' z w _ _ 0 hz l1 l2 e1 e2 d1 _ hXY hE k2 v2 m2 t2 p2 s2 d2 f2 g2

end Go.Proofs.Ytahaikfijegknaa
