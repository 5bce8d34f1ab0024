/- Unlike undo records have unlike bytes; what was written is read -/
import Derived.Test.YtahaikfijegknaaRows
import Derived.Test.YtahaikfijegknaaUndoWorks
import Derived.Test.YtahaikfijegknaaUndoRefPlain
import Derived.Test.YtahaikfijegknaaRowBackPlain
import Derived.WalkKit
import Derived.WalkLawsBesides
import Derived.WalkSpells
import Derived.LoopTactic
import Derived.WalkMore
import Derived.LoopN
import Derived.Laws.BitsAllLaws
import Derived.Laws.IdiomStrings
import Derived.BigQuiet
import Derived.Deep.QuietTactic
import Derived.Deep.DeepCutAuto
import Derived.Deep.RegionHeld3
import Derived.Deep.DrawnRows
import Derived.Lib.Hide
import Derived.Outline
import Derived.Deep.DeepMust
import Derived.Handy
namespace Go.Proofs.Ytahaikfijegknaa
open Go.RowKit
set_option linter.unusedVariables false
set_option linter.unusedSimpArgs false

theorem eqUndo (kd x pg sl kd' x' pg' sl' : Int) (y k v y' k' v' : ByteArray) (m m' : Bool) (t t' p p' s s' d d' : Int) (w : World) :
    (binOp .eql 58 (.agg #[.int .u8 kd, .int .u64 x, .int .u32 pg, .int .u16 sl, .string y, .string k, .bool m, .int .u64 t, .int .u32 p, .int .u16 s, .string v, .int .i64 d]) (.agg #[.int .u8 kd', .int .u64 x', .int .u32 pg', .int .u16 sl', .string y', .string k', .bool m', .int .u64 t', .int .u32 p', .int .u16 s', .string v', .int .i64 d'])).run Try.prog w =
      .ok (.bool (kd == kd' && (x == x' && ((pg == pg' && sl == sl') && (y.toList == y'.toList && (k.toList == k'.toList && (m == m' && (t == t' && ((p == p' && s == s') && (v.toList == v'.toList && d == d')))))))))) w := by
  simp [go_sem]
  by_cases h1 : kd = kd'
  · by_cases h2 : x = x'
    · by_cases h3 : pg = pg'
      · by_cases h4 : sl = sl'
        · by_cases h5 : y.toList = y'.toList
          · simp only [h1, h2, h3, h4, h5]
            by_cases g1 : k.toList = k'.toList <;> by_cases g2 : m = m' <;> by_cases g3 : t = t' <;> by_cases g4 : p = p' <;> by_cases g5 : s = s' <;> by_cases g6 : v.toList = v'.toList <;> by_cases g7 : d = d' <;> simp [g1, g2, g3, g4, g5, g6, g7]
          · simp [h1, h2, h3, h4, h5]
        · simp [h1, h2, h3, h4]
      · simp [h1, h2, h3]
    · simp [h1, h2]
  · simp [h1]
theorem row_size (k v : List UInt8) (m : Bool) (t p s d : Nat) (h : mayRow k.length v.length p s (d : Int) = true) : (encRow k v m t p s d).length ≤ 161 := by
  have := mayRow_iff.1 h
  unfold encRow
  simp [be_length]
  omega

theorem encU_rd (kd x pg sl : Nat) (r : List UInt8) (hkd : kd < 256 ^ 1) (hx : x < 256 ^ 8) (hpg : pg < 256 ^ 4) (hsl : sl < 256 ^ 2) (l : List UInt8) (hl : l = be 1 kd ++ (be 8 x ++ (be 4 pg ++ (be 2 sl ++ r)))) :
    rdNum l 0 1 = kd ∧ rdNum l 1 8 = x ∧ rdNum l 9 4 = pg ∧ rdNum l 13 2 = sl ∧ l.drop 15 = r ∧ 15 ≤ l.length := by
  refine ⟨?_, ?_, ?_, ?_, ?_, ?_⟩
  · rw [rdNum_mid (l := l) (i := 0) (k := 1) (a := []) (b := be 1 kd) (c := be 8 x ++ (be 4 pg ++ (be 2 sl ++ r))) (by simpa using hl) rfl (be_length _ _)]
    exact un_be_fits 1 kd hkd
  · rw [rdNum_mid (l := l) (i := 1) (k := 8) (a := be 1 kd) (b := be 8 x) (c := be 4 pg ++ (be 2 sl ++ r)) hl (be_length _ _) (be_length _ _)]
    exact un_be_fits 8 x hx
  · rw [rdNum_mid (l := l) (i := 9) (k := 4) (a := be 1 kd ++ be 8 x) (b := be 4 pg) (c := be 2 sl ++ r) (by simpa using hl) (by simp [be_length]) (be_length _ _)]
    exact un_be_fits 4 pg hpg
  · rw [rdNum_mid (l := l) (i := 13) (k := 2) (a := be 1 kd ++ (be 8 x ++ be 4 pg)) (b := be 2 sl) (c := r) (by simpa using hl) (by simp [be_length]) (be_length _ _)]
    exact un_be_fits 2 sl hsl
  · have h : l = (be 1 kd ++ (be 8 x ++ (be 4 pg ++ be 2 sl))) ++ r := by simpa using hl
    rw [h, List.drop_left' (by simp [be_length])]
  · rw [hl]
    simp [be_length]
    omega

theorem decOk_encRow (k v : List UInt8) (m : Bool) (t p s d : Nat) (ht : t < 256 ^ 8) (hs : s < 256 ^ 2) (hm : mayRow k.length v.length p s (d : Int) = true) : decOk (encRow k v m t p s d) = true := by
  cases h : decOk (encRow k v m t p s d) with
  | true => rfl
  | false =>
    have h1 := decV_bad h
    rw [decV_encRow k v m t p s d ht hs hm] at h1
    simp at h1

theorem zRow_eq {k : ByteArray} {m : Bool} {t p s : Nat} {v : ByteArray} {d : Int} (h : zRow k m t p s v d = true) : k = ⟨#[]⟩ ∧ m = false ∧ t = 0 ∧ p = 0 ∧ s = 0 ∧ v = ⟨#[]⟩ ∧ d = 0 := by
  unfold zRow at h
  simp only [Bool.and_eq_true, beq_iff_eq, ByteArray.toList_eq] at h
  obtain ⟨h1, h2, h3, ⟨h4, h5⟩, h6, h7⟩ := h
  exact ⟨bytes_ext h1, h2, by omega, by omega, by omega, bytes_ext h6, h7⟩

/-- What was written is read as itself. -/
theorem decUV_enc (kd x pg sl : Nat) (y k : ByteArray) (m : Bool) (t p s : Nat) (v : ByteArray) (d : Int) (hx : x < 256 ^ 8) (hsl : sl < 256 ^ 2) (ht : t < 256 ^ 8) (hs : s < 256 ^ 2) (hm : mayUndo kd x pg sl y k m t p s v d = true) :
    decUV (encUndo kd x pg sl y.data.toList k.data.toList m t p s v.data.toList d) = .tuple #[.agg #[.int .u8 kd, .int .u64 x, .int .u32 pg, .int .u16 sl, .string y, .string k, .bool m, .int .u64 t, .int .u32 p, .int .u16 s, .string v, .int .i64 d], .int .i64 0] := by
  obtain ⟨hh, hk⟩ := mayUndo_kind hm
  unfold UHead at hh
  rcases hk with ⟨h1, hz⟩ | ⟨h2, hky, hr⟩
  · obtain ⟨r1, r2, r3, r4, r5, r6⟩ := encU_rd kd x pg sl y.data.toList (by omega) hx (by omega) hsl (encUndo kd x pg sl y.data.toList k.data.toList m t p s v.data.toList d) (by unfold encUndo; rw [if_pos h1])
    obtain ⟨z1, z2, z3, z4, z5, z6, z7⟩ := zRow_eq hz
    have hn := decUV_new (l := encUndo kd x pg sl y.data.toList k.data.toList m t p s v.data.toList d) (by omega) r6 kd x pg sl y r1 r2 r3 r4 (by rw [r5])
    rw [hn]
    subst z1 z2 z3 z4 z5 z6 z7
    rw [if_pos hm]
    rfl
  · have hyk : k = y := bytes_ext (by simpa [ByteArray.toList_eq] using hky)
    have hr0 := mayRow_iff.1 hr
    obtain ⟨dd, hdd⟩ := Int.eq_ofNat_of_zero_le hr0.2.2.1
    subst hdd
    have hr' : mayRow k.data.toList.length v.data.toList.length p s (dd : Int) = true := by simpa using hr
    have hkl : k.data.toList.length < 256 := by simp; omega
    have hvl : v.data.toList.length < 256 := by simp; omega
    obtain ⟨r1, r2, r3, r4, r5, r6⟩ := encU_rd kd x pg sl (encRow k.data.toList v.data.toList m t p s dd) (by omega) hx (by omega) hsl (encUndo kd x pg sl y.data.toList k.data.toList m t p s v.data.toList dd) (by unfold encUndo; rw [if_neg (by omega), Int.toNat_natCast])
    have ho := decOk_encRow k.data.toList v.data.toList m t p s dd ht hs hr'
    have hn := decUV_put (l := encUndo kd x pg sl y.data.toList k.data.toList m t p s v.data.toList dd) (by omega) r6 (by rw [r5]; exact ho) x pg sl k v m t p s dd r2 r3 r4
      (by rw [r5, back_k _ _ m t p s dd hkl]) (by rw [r5, back_v _ _ m t p s dd hkl hvl]) (by rw [r5, back_mark]; cases m <;> rfl) (by rw [r5, back_t _ _ m t p s dd ht]) (by rw [r5, back_p _ _ m t p s dd (by omega)]) (by rw [r5, back_s _ _ m t p s dd hs]) (by rw [r5, back_pad _ _ m t p s dd hkl hvl])
    subst h2 hyk
    rw [hn, if_pos hm]
    rfl

theorem encU_size (kd x pg sl : Nat) (y k : ByteArray) (m : Bool) (t p s : Nat) (v : ByteArray) (d : Int) (hm : mayUndo kd x pg sl y k m t p s v d = true) :
    (⟨(encUndo kd x pg sl y.data.toList k.data.toList m t p s v.data.toList d).toArray⟩ : ByteArray).size ≤ 200 := by
  obtain ⟨hh, hk⟩ := mayUndo_kind hm
  unfold UHead at hh
  show (encUndo kd x pg sl y.data.toList k.data.toList m t p s v.data.toList d).toArray.size ≤ 200
  unfold encUndo
  rcases hk with ⟨h1, _⟩ | ⟨h2, _, hr⟩
  · rw [if_pos h1]
    simp [be_length]
    omega
  · rw [if_neg (by omega)]
    have hr0 := mayRow_iff.1 hr
    have := row_size k.data.toList v.data.toList m t p s d.toNat (by rw [Int.toNat_of_nonneg hr0.2.2.1]; simpa using hr)
    simp [be_length]
    omega

/-- Unlike records have unlike bytes. -/
theorem encU_eq (kd x pg sl : Nat) (y k : ByteArray) (m : Bool) (t p s : Nat) (v : ByteArray) (d : Int) (kd' x' pg' sl' : Nat) (y' k' : ByteArray) (m' : Bool) (t' p' s' : Nat) (v' : ByteArray) (d' : Int)
    (hx : x < 256 ^ 8) (hsl : sl < 256 ^ 2) (ht : t < 256 ^ 8) (hs : s < 256 ^ 2) (hm : mayUndo kd x pg sl y k m t p s v d = true)
    (hx' : x' < 256 ^ 8) (hsl' : sl' < 256 ^ 2) (ht' : t' < 256 ^ 8) (hs' : s' < 256 ^ 2) (hm' : mayUndo kd' x' pg' sl' y' k' m' t' p' s' v' d' = true) :
    ((⟨(encUndo kd x pg sl y.data.toList k.data.toList m t p s v.data.toList d).toArray⟩ : ByteArray).toList == (⟨(encUndo kd' x' pg' sl' y'.data.toList k'.data.toList m' t' p' s' v'.data.toList d').toArray⟩ : ByteArray).toList) =
      ((kd : Int) == kd' && ((x : Int) == x' && (((pg : Int) == pg' && (sl : Int) == sl') && (y.toList == y'.toList && (k.toList == k'.toList && (m == m' && ((t : Int) == t' && (((p : Int) == p' && (s : Int) == s') && (v.toList == v'.toList && d == d'))))))))) := by
  rw [Bool.eq_iff_iff]
  simp only [ByteArray.toList_eq, Bool.and_eq_true, beq_iff_eq]
  constructor
  · intro h
    have e1 := decUV_enc kd x pg sl y k m t p s v d hx hsl ht hs hm
    have e2 := decUV_enc kd' x' pg' sl' y' k' m' t' p' s' v' d' hx' hsl' ht' hs' hm'
    rw [h, e2] at e1
    simp at e1
    obtain ⟨a1, a2, a3, a4, a5, a6, a7, a8, a9, a10, a11, a12⟩ := e1
    exact ⟨by omega, by omega, ⟨by omega, by omega⟩, by rw [a5], by rw [a6], by rw [a7], by omega, ⟨by omega, by omega⟩, by rw [a11], by omega⟩
  · rintro ⟨a1, a2, ⟨a3, a4⟩, a5, a6, a7, a8, ⟨a9, a10⟩, a11, a12⟩
    rw [a5, a6, a7, a11, a12, show kd = kd' by omega, show x = x' by omega, show pg = pg' by omega, show sl = sl' by omega, show t = t' by omega, show p = p' by omega, show s = s' by omega]

end Go.Proofs.Ytahaikfijegknaa
