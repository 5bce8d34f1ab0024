/- ref01: Set -/
import Derived.Test.YtienlhnbmobinaaRows
import Derived.Test.YtienlhnbmobinaaOpDoes
import Derived.Test.YtienlhnbmobinaaTextsMove
import Derived.Test.YtienlhnbmobinaaTextsP
import Derived.Test.YtienlhnbmobinaaPlains
import Derived.Test.YtienlhnbmobinaaBase
import Derived.WalkKit
import Derived.WalkLawsBesides
import Derived.WalkSpells
import Derived.LoopTactic
import Derived.WalkMore
import Derived.LoopN
import Derived.Laws.BitsAllLaws
import Derived.Laws.IdiomStrings
import Derived.BigQuiet
import Derived.Deep.QuietTactic
import Derived.Deep.DeepCutAuto
import Derived.Deep.RegionHeld3
import Derived.Deep.DrawnRows
import Derived.Lib.Hide
import Derived.Outline
import Derived.Deep.DeepMust
import Derived.Handy
namespace Go.Proofs.Ytienlhnbmobinaa
open Go.RowKit
set_option linter.unusedVariables false
set_option linter.unusedSimpArgs false

theorem numsBytes : ∀ zs : List UInt8, strOfNums (zs.map fun b => (b.toNat : Int)) = ⟨zs.toArray⟩
  | [] => rfl
  | z :: zs => by
    apply bytes_ext
    rw [List.map_cons, strOfNums_cons, numsBytes zs]
    simp
/-- A text laid over another. -/
def putL (l : List UInt8) (f : Nat) (t : List UInt8) : List UInt8 := l.take f ++ t ++ l.drop (f + t.length)
theorem putL_len {l t : List UInt8} {f : Nat} (h : f + t.length ≤ l.length) : (putL l f t).length = l.length := by unfold putL; simp; omega
theorem putL_step (l : List UInt8) (f i : Nat) (t : List UInt8) (hi : i < t.length) (hk : f + t.length ≤ l.length) : (putL l f (t.take i)).set (f + i) t[i] = putL l f (t.take (i + 1)) := by
  have hl1 : (t.take i).length = i := by simp; omega
  have hl2 : (t.take (i + 1)).length = i + 1 := by simp; omega
  unfold putL
  rw [hl1, hl2, List.drop_eq_getElem_cons (show f + i < l.length by omega), List.set_append_right _ _ (by simp; omega)]
  have e : f + i - (l.take f ++ t.take i).length = 0 := by simp; omega
  rw [e, List.set_cons_zero, List.take_succ_eq_append_getElem hi]
  simp only [List.append_assoc, List.cons_append, List.nil_append, Nat.add_assoc]
set_option maxHeartbeats 1000000 in
set_option maxRecDepth 100000 in
theorem refSet01_any (l : List UInt8) (f : Nat) (t : List UInt8) (w : World) (hl : l.length ≤ 1000000) (hf : f ≤ 1000000) (ht : t.length ≤ 1000000) :
    Calls Try.prog 149 #[.string ⟨l.toArray⟩, .int .i64 f, .string ⟨t.toArray⟩] w fun e w' => e = .returned (.tuple #[.string ⟨((setB l f t).getD []).toArray⟩, .bool (setB l f t).isSome]) ∧ Below w.heap.size w w' := by
  have hz : (⟨t.toArray⟩ : ByteArray).size = t.length := by simp [ByteArray.size]
  have hz2 : (⟨l.toArray⟩ : ByteArray).size = l.length := by simp [ByteArray.size]
  obtain ⟨R, hR⟩ : ∃ R, R = setB l f t := ⟨_, rfl⟩
  rw [← hR]
  unfold setB at hR
  have wn : IntKind.i64.wrap ((l.length : Int) - (f : Int)) = (l.length : Int) - (f : Int) := IntWalk.i64_in _ ⟨by omega, by omega⟩
  have f0 : ¬ (f : Int) < 0 := by omega
  by_cases h : f + t.length ≤ l.length
  · have h2 : ¬ (l.length : Int) - (f : Int) < (t.length : Int) := by omega
    have h3 : ¬ l.length < f := by omega
    rw [if_pos h] at hR
    have HR := Lib.hid hR
    clear hR
    go_enter Try.func149, Try.ntmps149
    go_wp2_with fail
    refine upon_row _ 9 70 5 _ Try.underlying9 Try.underlying70 Try.underlying5 (fun W cap hW hrow => ?_)
    have HW := Lib.hid hW
    have HROW := Lib.hid hrow
    rw [hz2]
    obtain ⟨g, hg⟩ : ∃ g, g = w.heap.size := ⟨_, rfl⟩
    have hgle : w.heap.size ≤ g := by omega
    rw [← hg] at HROW ⊢
    clear hW hrow hg
    obtain ⟨n, hn⟩ : ∃ n, n = t.length := ⟨_, rfl⟩
    obtain ⟨m, hm⟩ : ∃ m, m = l.length := ⟨_, rfl⟩
    rw [← hn] at hz h ht
    rw [← hm] at hz2 h hl
    rw [← hm]
    have HN := Lib.hid hn
    have HM := Lib.hid hm
    clear hn hm wn h2 h3
    go_wp2_with fail
    go_loopw [9] (fun s9 wr => ∃ i : Nat, i ≤ n ∧ s9 = .int .i64 i ∧ Hid (RowAt wr g (putL l f (t.take i))) ∧ Hid (Below w.heap.size w wr)) (fun i _ => n - (intOf i).toNat)
    case atStart => exact ⟨0, Nat.zero_le _, rfl, by show RowAt _ _ _; have h : putL l f (t.take 0) = l := (by simp [putL]); rw [h]; exact HROW.out, HW⟩
    case round =>
      obtain ⟨i, hi, rfl, HA, HB⟩ := hrel
      by_cases hc : i < n
      · have hil : i < t.length := by rw [← HN.out]; exact hc
        have hlen : (putL l f (t.take i)).length = m := by rw [HM.out]; exact putL_len (by simp; have := HN.out; have := HM.out; omega)
        have hfz := HA.out.frozen (f + i) (by omega)
        have hcx := HA.out.cell (f + i) (by omega)
        have hst := putL_step l f i t hil (by have := HN.out; have := HM.out; omega)
        have HS := Lib.hid (HA.out.set (f + i) t[i] (by omega))
        have hsi : ((⟨t.toArray⟩ : ByteArray)[i]'(by rw [hz]; exact hc)) = t[i] := rfl
        generalize (((putL l f (t.take i))[f + i]'(by omega)).toNat : Int) = qq at hcx
        have HT := Lib.hid hst
        clear HA hst hlen
        have hwl : IntKind.i64.wrap ((f : Int) + (i : Int)) = ((f + i : Nat) : Int) := by rw [show (f : Int) + (i : Int) = ((f + i : Nat) : Int) by omega]; exact IntWalk.i64_in _ ⟨by omega, by omega⟩
        have hki : f + i < m := by omega
        generalize hkk : f + i = kk at *
        have hqx : ((kk : Nat) : Int) < (m : Int) := by omega
        have hqy : ((i : Nat) : Int) < (n : Int) := by omega
        have hqz : ¬ ((kk : Nat) : Int) < 0 := by omega
        have hqw : ¬ ((i : Nat) : Int) < 0 := by omega
        go_wp2_with fail
        go_roundw
        case rel =>
          have hr2 := HS.out
          rw [HT.out] at hr2
          exact ⟨i + 1, by omega, by go_num, hr2, HB.out.setCell hgle _⟩
        case measure => simp [intOf]; omega
      · obtain rfl : i = n := by omega
        have hfull : t.take i = t := List.take_of_length_le (by have := HN.out; omega)
        rw [hfull] at HA
        have hlm : (putL l f t).length = m := by rw [HM.out]; exact putL_len (by have := HN.out; have := HM.out; omega)
        go_wp2_with fail
        refine upon_str HA.out hlm 70 5 9 Try.underlying70 Try.underlying5 Try.underlying9 ?_
        rw [numsBytes]
        go_wp2_with fail
        go_ret2
        exact ⟨by rw [HR.out]; rfl, HB.out⟩
  · have h2 : (l.length : Int) - (f : Int) < (t.length : Int) := by omega
    rw [if_neg h] at hR
    have HR := Lib.hid hR
    clear hR h
    by_cases h3 : l.length < f
    · go_enter Try.func149, Try.ntmps149
      go_wp2_with fail
      go_ret2
      exact ⟨by rw [HR.out]; rfl, Below.refl _ _⟩
    · go_enter Try.func149, Try.ntmps149
      go_wp2_with fail
      go_ret2
      exact ⟨by rw [HR.out]; rfl, Below.refl _ _⟩

end Go.Proofs.Ytienlhnbmobinaa
