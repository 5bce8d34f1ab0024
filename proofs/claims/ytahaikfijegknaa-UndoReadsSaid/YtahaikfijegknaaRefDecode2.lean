/- What the reference's Decode has cut out is the row that the bytes are -/
import Derived.Test.YtahaikfijegknaaRows
import Derived.Test.YtahaikfijegknaaRefDecode1
import Derived.WalkKit
import Derived.WalkLawsBesides
import Derived.WalkSpells
import Derived.LoopTactic
import Derived.WalkMore
import Derived.LoopN
import Derived.Laws.BitsAllLaws
import Derived.Laws.IdiomStrings
import Derived.BigQuiet
import Derived.Deep.QuietTactic
import Derived.Deep.DeepCutAuto
import Derived.Deep.RegionHeld3
import Derived.Deep.DrawnRows
import Derived.Lib.Hide
import Derived.Outline
import Derived.Deep.DeepMust
import Derived.Handy
namespace Go.Proofs.Ytahaikfijegknaa
open Go.RowKit
set_option linter.unusedVariables false
set_option linter.unusedSimpArgs false

theorem dK_extract (s : ByteArray) (h : 16 + dKn s.data.toList ≤ s.size) : s.extract 16 (16 + dKn s.data.toList) = ⟨(dK s.data.toList).toArray⟩ := by
  have hlen : s.data.toList.length = s.size := by simp
  apply bytes_ext
  rw [Lib.extract_data]
  unfold dK
  rw [show 15 + 1 = 16 from rfl, rdText_in (by omega)]
  simp

theorem dV_extract (s : ByteArray) (h : dE s.data.toList ≤ s.size) : s.extract (17 + dKn s.data.toList) (dE s.data.toList) = ⟨(dV s.data.toList).toArray⟩ := by
  have hlen : s.data.toList.length = s.size := by simp
  have hE : dE s.data.toList = dA s.data.toList + 1 + dVn s.data.toList := rfl
  have hA : dA s.data.toList = 15 + 1 + dKn s.data.toList := rfl
  apply bytes_ext
  rw [Lib.extract_data]
  unfold dV
  rw [rdText_in (by omega)]
  have h1 : dA s.data.toList + 1 = 17 + dKn s.data.toList := by omega
  have h2 : dE s.data.toList - (17 + dKn s.data.toList) = dVn s.data.toList := by omega
  rw [h1, h2]

theorem decOk_fit (s : ByteArray) (h16 : 16 ≤ s.size) (hE : dE s.data.toList ≤ s.size) (h1 : rdNum s.data.toList 0 1 ≤ 1) (hz : s.data.toList.drop (dE s.data.toList) = List.replicate (s.size - dE s.data.toList) 0) :
    decOk s.data.toList = mayRow (s.extract 16 (16 + dKn s.data.toList)).size (s.extract (17 + dKn s.data.toList) (dE s.data.toList)).size (rdNum s.data.toList 9 4) (rdNum s.data.toList 13 2) ((s.size : Int) - (dE s.data.toList : Int)) := by
  have hlen : s.data.toList.length = s.size := by simp
  have hE' : dE s.data.toList = dA s.data.toList + 1 + dVn s.data.toList := rfl
  have hA : dA s.data.toList = 15 + 1 + dKn s.data.toList := rfl
  rw [decOk_eq s.data.toList (by omega) (by omega) (by omega), decide_eq_true h1, decide_eq_true (p := _ = _) (by rw [hlen]; exact hz), dK_extract s (by omega), dV_extract s hE]
  unfold decMay dPad
  rw [hlen]
  show _ = mayRow (dK s.data.toList).toArray.size (dV s.data.toList).toArray.size _ _ _
  simp

/-- What Decode returns, of what it has cut out. -/
theorem decV_fit (s : ByteArray) (n1 n2 n3 n4 n5 n6 E : Nat) (hn1 : rdNum s.data.toList 0 1 = n1) (hn2 : rdNum s.data.toList 1 8 = n2) (hn3 : rdNum s.data.toList 9 4 = n3) (hn4 : rdNum s.data.toList 13 2 = n4) (hn5 : dKn s.data.toList = n5) (hn6 : dVn s.data.toList = n6) (hE : E = 17 + n5 + n6)
    (hin : 17 + n5 + n6 ≤ s.size) (h1 : n1 ≤ 1) (hz : s.data.toList.drop E = List.replicate (s.size - E) 0) (kS vS : ByteArray) (m : Bool) (pad : Int)
    (hk : s.extract 16 (16 + (n5 : Int)).toNat = kS) (hv : s.extract (16 + (n5 : Int) + 1).toNat E = vS) (hm : ((n1 : Int) == 1) = m) (hp : (s.size : Int) - (E : Int) = pad) :
    decV s.data.toList = (if mayRow kS.size vS.size n3 n4 pad then .tuple #[.agg #[.string kS, .bool m, .int .u64 n2, .int .u32 n3, .int .u16 n4, .string vS, .int .i64 pad], .int .i64 0] else .tuple #[.agg #[.string ⟨#[]⟩, .bool false, .int .u64 0, .int .u32 0, .int .u16 0, .string ⟨#[]⟩, .int .i64 0], .int .i64 7]) := by
  have hlen : s.data.toList.length = s.size := by simp
  have hE' : dE s.data.toList = E := by
    have hE' : dE s.data.toList = dA s.data.toList + 1 + dVn s.data.toList := rfl
    have hA : dA s.data.toList = 15 + 1 + dKn s.data.toList := rfl
    omega
  have ha : (16 + (n5 : Int)).toNat = 16 + n5 := by omega
  have hb : (16 + (n5 : Int) + 1).toNat = 17 + n5 := by omega
  rw [ha] at hk
  rw [hb] at hv
  have hd := decOk_fit s (by omega) (by omega) (by omega) (by rw [hE']; exact hz)
  rw [hE', hn3, hn4, hn5, hk, hv, hp] at hd
  have hk2 := dK_extract s (by omega)
  have hv2 := dV_extract s (by omega)
  rw [hn5, hk] at hk2
  rw [hE', hn5, hv] at hv2
  have hm2 : decide (0 < n1) = m := by
    rw [← hm]
    rcases Nat.le_one_iff_eq_zero_or_eq_one.1 h1 with h0 | h0 <;> subst h0 <;> rfl
  have hpp : dPad s.data.toList = pad := by unfold dPad; rw [hlen, hE', hp]
  unfold decV
  rw [hd, hn1, hn2, hn3, hn4, hm2, hpp, ← hk2, ← hv2]

end Go.Proofs.Ytahaikfijegknaa
