/- What is read of a row's bytes is the row; unlike rows have unlike bytes. -/
import Derived.Test.YtahaikfijegknaaRows
import Derived.Test.YtahaikfijegknaaRowEntriesWalk
import Derived.WalkKit
import Derived.WalkLawsBesides
import Derived.WalkSpells
import Derived.LoopTactic
import Derived.WalkMore
import Derived.LoopN
import Derived.Laws.BitsAllLaws
import Derived.Laws.IdiomStrings
import Derived.BigQuiet
import Derived.Deep.QuietTactic
import Derived.Deep.DeepCutAuto
import Derived.Deep.RegionHeld3
import Derived.Deep.DrawnRows
import Derived.Lib.Hide
import Derived.Outline
import Derived.Deep.DeepMust
import Derived.Handy
namespace Go.Proofs.Ytahaikfijegknaa
open Go.RowKit
set_option linter.unusedVariables false
set_option linter.unusedSimpArgs false

theorem rdNum_mid {l a b c : List UInt8} {i k : Nat} (h : l = a ++ (b ++ c)) (ha : a.length = i) (hb : b.length = k) : rdNum l i k = un b := by
  subst h ha hb
  unfold rdNum
  rw [if_pos (by simp), List.drop_left, List.take_left]

theorem rdText_mid {l a b c : List UInt8} {i k : Nat} (h : l = a ++ (b ++ c)) (ha : a.length = i) (hb : b.length = k) : rdText l i k = b := by
  subst h ha hb
  unfold rdText
  rw [if_pos (by simp), List.drop_left, List.take_left]

section
variable (k v : List UInt8) (m : Bool) (t p s d : Nat)
theorem back_mark : rdNum (encRow k v m t p s d) 0 1 = if m then 1 else 0 := by
  rw [rdNum_mid (i := 0) (k := 1) (a := []) (b := [if m then 1 else 0]) (c := be 8 t ++ be 4 p ++ be 2 s ++ be 1 k.length ++ k ++ be 1 v.length ++ v ++ List.replicate d 0) (by unfold encRow; simp) rfl rfl]
  cases m <;> rfl
theorem back_t (ht : t < 256 ^ 8) : rdNum (encRow k v m t p s d) 1 8 = t := by
  rw [rdNum_mid (i := 1) (k := 8) (a := [if m then 1 else 0]) (b := be 8 t) (c := be 4 p ++ be 2 s ++ be 1 k.length ++ k ++ be 1 v.length ++ v ++ List.replicate d 0) (by unfold encRow; simp) rfl (be_length _ _)]
  exact un_be_fits 8 t ht
theorem back_p (hp : p < 256 ^ 4) : rdNum (encRow k v m t p s d) 9 4 = p := by
  rw [rdNum_mid (a := (if m then 1 else 0) :: be 8 t) (b := be 4 p) (c := be 2 s ++ be 1 k.length ++ k ++ be 1 v.length ++ v ++ List.replicate d 0) (by unfold encRow; simp) (by simp [be_length]) (be_length _ _)]
  exact un_be_fits 4 p hp
theorem back_s (hs : s < 256 ^ 2) : rdNum (encRow k v m t p s d) 13 2 = s := by
  rw [rdNum_mid (a := (if m then 1 else 0) :: (be 8 t ++ be 4 p)) (b := be 2 s) (c := be 1 k.length ++ k ++ be 1 v.length ++ v ++ List.replicate d 0) (by unfold encRow; simp) (by simp [be_length]) (be_length _ _)]
  exact un_be_fits 2 s hs
theorem back_kn (hk : k.length < 256) : dKn (encRow k v m t p s d) = k.length := by
  unfold dKn
  rw [rdNum_mid (a := (if m then 1 else 0) :: (be 8 t ++ be 4 p ++ be 2 s)) (b := be 1 k.length) (c := k ++ be 1 v.length ++ v ++ List.replicate d 0) (by unfold encRow; simp) (by simp [be_length]) (be_length _ _)]
  exact un_be_fits 1 _ (by simpa using hk)
theorem back_k (hk : k.length < 256) : dK (encRow k v m t p s d) = k := by
  unfold dK
  rw [back_kn k v m t p s d hk]
  exact rdText_mid (a := (if m then 1 else 0) :: (be 8 t ++ be 4 p ++ be 2 s ++ be 1 k.length)) (c := be 1 v.length ++ v ++ List.replicate d 0) (by unfold encRow; simp) (by simp [be_length]) rfl
theorem back_vn (hk : k.length < 256) (hv : v.length < 256) : dVn (encRow k v m t p s d) = v.length := by
  unfold dVn dA
  rw [back_kn k v m t p s d hk, rdNum_mid (a := (if m then 1 else 0) :: (be 8 t ++ be 4 p ++ be 2 s ++ be 1 k.length ++ k)) (b := be 1 v.length) (c := v ++ List.replicate d 0) (by unfold encRow; simp) (by simp [be_length]; omega) (be_length _ _)]
  exact un_be_fits 1 _ (by simpa using hv)
theorem back_v (hk : k.length < 256) (hv : v.length < 256) : dV (encRow k v m t p s d) = v := by
  unfold dV
  rw [back_vn k v m t p s d hk hv]
  unfold dA
  rw [back_kn k v m t p s d hk]
  exact rdText_mid (a := (if m then 1 else 0) :: (be 8 t ++ be 4 p ++ be 2 s ++ be 1 k.length ++ k ++ be 1 v.length)) (c := List.replicate d 0) (by unfold encRow; simp) (by simp [be_length]; omega) rfl
theorem back_pad (hk : k.length < 256) (hv : v.length < 256) : dPad (encRow k v m t p s d) = (d : Int) := by
  unfold dPad dE
  rw [back_vn k v m t p s d hk hv]
  unfold dA
  rw [back_kn k v m t p s d hk]
  have : (encRow k v m t p s d).length = 17 + k.length + v.length + d := by
    unfold encRow
    simp [be_length]
    omega
  rw [this]
  omega

theorem decV_encRow (ht : t < 256 ^ 8) (hs : s < 256 ^ 2) (hm : mayRow k.length v.length p s (d : Int) = true) :
    decV (encRow k v m t p s d) = .tuple #[.agg #[.string ⟨k.toArray⟩, .bool m, .int .u64 t, .int .u32 p, .int .u16 s, .string ⟨v.toArray⟩, .int .i64 d], .int .i64 0] := by
  have h := mayRow_iff.1 hm
  have hk : k.length < 256 := by omega
  have hv : v.length < 256 := by omega
  have hmark : decide (0 < rdNum (encRow k v m t p s d) 0 1) = m := by rw [back_mark]; cases m <;> rfl
  have hlen : (encRow k v m t p s d).length = 17 + k.length + v.length + d := by
    unfold encRow
    simp [be_length]
    omega
  have hA : dA (encRow k v m t p s d) = 16 + k.length := by unfold dA; rw [back_kn k v m t p s d hk]
  have hE : dE (encRow k v m t p s d) = 17 + k.length + v.length := by unfold dE; rw [hA, back_vn k v m t p s d hk hv]; omega
  have hIs : dIs (encRow k v m t p s d) = true := by
    unfold dIs rd4
    rw [hA, hE, hlen]
    simp
    omega
  have hMay : decMay (encRow k v m t p s d) = true := by
    unfold decMay
    rw [back_k k v m t p s d hk, back_v k v m t p s d hk hv, back_p k v m t p s d (by omega), back_s k v m t p s d hs, back_pad k v m t p s d hk hv]
    exact hm
  have hEnc : decEnc (encRow k v m t p s d) = encRow k v m t p s d := by
    unfold decEnc
    rw [back_k k v m t p s d hk, back_v k v m t p s d hk hv, back_p k v m t p s d (by omega), back_s k v m t p s d hs, back_pad k v m t p s d hk hv, hmark, back_t k v m t p s d ht]
    rfl
  have hOk : decOk (encRow k v m t p s d) = true := by
    unfold decOk
    rw [hIs, hMay, hEnc]
    simp
  unfold decV
  rw [hOk, back_k k v m t p s d hk, back_v k v m t p s d hk hv, back_p k v m t p s d (by omega), back_s k v m t p s d hs, back_pad k v m t p s d hk hv, hmark, back_t k v m t p s d ht]
  rfl
end

/-- Whether two rows are the same, as the machine tells it. -/
def sameRow (k v k' v' : ByteArray) (m m' : Bool) (t t' p p' s s' d d' : Int) : Bool :=
  k.toList == k'.toList && (m == m' && (t == t' && ((p == p' && s == s') && (v.toList == v'.toList && d == d'))))

theorem encRow_eq (k v k' v' : ByteArray) (m m' : Bool) (t t' p p' s s' d d' : Nat) (ht : t < 256 ^ 8) (ht' : t' < 256 ^ 8) (hs : s < 256 ^ 2) (hs' : s' < 256 ^ 2) (h : mayRow k.size v.size p s (d : Int) = true) (h' : mayRow k'.size v'.size p' s' (d' : Int) = true) :
    ((⟨(encRow k.data.toList v.data.toList m t p s d).toArray⟩ : ByteArray).toList == (⟨(encRow k'.data.toList v'.data.toList m' t' p' s' d').toArray⟩ : ByteArray).toList) = sameRow k v k' v' m m' t t' p p' s s' d d' := by
  unfold sameRow
  rw [Bool.eq_iff_iff]
  simp only [ByteArray.toList_eq, Bool.and_eq_true, beq_iff_eq]
  constructor
  · intro hh
    have hh : encRow k.data.toList v.data.toList m t p s d = encRow k'.data.toList v'.data.toList m' t' p' s' d' := hh
    have e := decV_encRow k.data.toList v.data.toList m t p s d ht hs (by simpa using h)
    rw [hh, decV_encRow k'.data.toList v'.data.toList m' t' p' s' d' ht' hs' (by simpa using h')] at e
    simp at e
    obtain ⟨e1, e2, e3, e4, e5, e6, e7⟩ := e
    simp [e1, e2, e3, e4, e5, e6, e7]
  · rintro ⟨e1, e2, e3, ⟨e4, e5⟩, e6, e7⟩
    have e3 : t = t' := by omega
    have e4 : p = p' := by omega
    have e5 : s = s' := by omega
    have e7 : d = d' := by omega
    rw [e1, e2, e3, e4, e5, e6, e7]

/-- What bytes that are read are: a row that may be, whose bytes they are. -/
theorem decOk_row (l : List UInt8) (h : decOk l = true) : mayRow (dK l).length (dV l).length (rdNum l 9 4) (rdNum l 13 2) (dPad l) = true ∧ encRow (dK l) (dV l) (decide (0 < rdNum l 0 1)) (rdNum l 1 8) (rdNum l 9 4) (rdNum l 13 2) (dPad l).toNat = l := by
  unfold decOk at h
  simp only [Bool.and_eq_true, beq_iff_eq] at h
  exact ⟨h.2.1, h.2.2⟩

end Go.Proofs.Ytahaikfijegknaa
