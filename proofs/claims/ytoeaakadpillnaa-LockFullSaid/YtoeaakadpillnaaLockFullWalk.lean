/- LockFull: the walk. -/
import Derived.Test.YtoeaakadpillnaaRows
import Derived.Test.YtoeaakadpillnaaLockWorks
import Derived.Test.YtoeaakadpillnaaLockRest
import Derived.Test.YtoeaakadpillnaaLockHeld
import Derived.Test.YtoeaakadpillnaaLockWalks
import Derived.Test.YtoeaakadpillnaaKept
import Derived.WalkKit
import Derived.WalkLawsBesides
import Derived.WalkSpells
import Derived.LoopTactic
import Derived.WalkMore
import Derived.LoopN
import Derived.Laws.BitsAllLaws
import Derived.Laws.IdiomStrings
import Derived.BigQuiet
import Derived.Deep.QuietTactic
import Derived.Deep.DeepCutAuto
import Derived.Deep.RegionHeld3
import Derived.Deep.DrawnRows
import Derived.Lib.Hide
import Derived.Outline
import Derived.Deep.DeepMust
import Derived.Handy
namespace Go.Proofs.Ytoeaakadpillnaa
open Go.RowKit
set_option linter.unusedVariables false
set_option linter.unusedSimpArgs false

/-- The key of a round. -/
def keyN (i : Nat) : Bs := [UInt8.ofNat i, UInt8.ofNat (i / 256), 107]
theorem keyN_inj {i j : Nat} (hi : i < 65536) (hj : j < 65536) (h : keyN i = keyN j) : i = j := by
  unfold keyN at h
  simp only [List.cons.injEq, and_true] at h
  obtain ⟨h1, h2⟩ := h
  have e1 := congrArg UInt8.toNat h1
  have e2 := congrArg UInt8.toNat h2
  simp only [UInt8.toNat_ofNat'] at e1 e2
  omega
/-- The locks behind so many rounds. -/
def FullAt (T : Lk) (j : Nat) : Prop := T.length = min j 1024 ∧ ∀ k, (who T k).isSome = true → ∃ i, i < min j 1024 ∧ k = keyN i
theorem FullAt.none {T : Lk} {j : Nat} (h : FullAt T j) (hj : j < 65536) : who T (keyN j) = none := by
  cases hw : who T (keyN j) with
  | none => rfl
  | some t =>
    obtain ⟨i, hi, hk⟩ := h.2 (keyN j) (by rw [hw]; rfl)
    have := keyN_inj hj (by omega) hk
    omega
theorem full_step {T : Lk} {j : Nat} (hT : T.Rising) (h : FullAt T j) (hj : j < 65536) (tx : Nat) (htx : tx ≠ 0) :
    (takeL T tx (keyN j)).2 = (decide (j < 1024), if j < 1024 then 0 else 4) ∧ FullAt (takeL T tx (keyN j)).1 (j + 1) := by
  have hn := h.none hj
  have hl : (keyN j).length = 3 := rfl
  unfold takeL
  rw [if_neg (by rw [hl]; omega), hn]
  by_cases hc : j < 1024
  · have h1 : ¬ 1024 ≤ T.length := by rw [h.1]; omega
    simp only [if_neg h1]
    refine ⟨by simp [hc], ?_, ?_⟩
    · rw [length_ins, h.1]; omega
    · intro k hk
      rw [who_ins hT hn] at hk
      by_cases e : k = keyN j
      · exact ⟨j, by omega, e⟩
      · rw [if_neg e] at hk
        obtain ⟨i, hi, he⟩ := h.2 k hk
        exact ⟨i, by omega, he⟩
  · have h1 : 1024 ≤ T.length := by rw [h.1]; omega
    simp only [if_pos h1]
    refine ⟨by simp [hc], by rw [h.1]; omega, ?_⟩
    intro k hk
    obtain ⟨i, hi, he⟩ := h.2 k hk
    exact ⟨i, by omega, he⟩

set_option maxRecDepth 100000 in
theorem keyN_conv (w : World) (i : Nat) (hi : i < 65536) :
    (convert 47 9 (.slice (some ⟨w.heap.size, 0, none⟩) 3 3)).run Try.prog (w.alloc (.cells #[.int .u8 ((i : Int) % 256), .int .u8 ((i : Int) / 256), .int .u8 107] 5)) = .ok (.string ⟨(keyN i).toArray⟩) (w.alloc (.cells #[.int .u8 ((i : Int) % 256), .int .u8 ((i : Int) / 256), .int .u8 107] 5)) := by
  have := conv_block (P := Try.prog) w 47 5 9 Try.underlying47 Try.underlying5 Try.underlying9 #[.int .u8 ((i : Int) % 256), .int .u8 ((i : Int) / 256), .int .u8 107] 5 0 3 3 (fun j hj => by
    rcases j with _ | _ | _ | j
    · rfl
    · rfl
    · rfl
    · omega) (by simp)
  rw [this]
  congr 2
  apply bytes_ext
  have e1 : UInt8.ofNat ((i : Int) % 256).toNat = UInt8.ofNat i := by
    rw [← UInt8.toNat_inj]; simp; omega
  have e2 : UInt8.ofNat ((i : Int) / 256).toNat = UInt8.ofNat (i / 256) := by
    rw [show ((i : Int) / 256).toNat = i / 256 by omega]
  show (strOfNums [(i : Int) % 256, (i : Int) / 256, 107]).data.toList = keyN i
  rw [strOfNums_cons, strOfNums_cons, strOfNums_cons, e1, e2]
  rfl

set_option maxRecDepth 100000 in
set_option maxHeartbeats 2000000 in
theorem lockFull_walk (over : Int) (w : World) (ho : -128 ≤ over ∧ over ≤ 127) :
    Calls Try.prog 5 #[.int .i8 over] w fun e w' => e = .returned (.bool true) ∧ Below w.heap.size w w' := by
  obtain ⟨top, htop⟩ : ∃ t : Nat, (t : Int) = 1024 + over := ⟨(1024 + over).toNat, by omega⟩
  have w1 : IntKind.i64.wrap over = over := IntWalk.i64_in _ ⟨by omega, by omega⟩
  have w2 : IntKind.i64.wrap (1024 + over) = (top : Int) := by rw [← htop]; exact IntWalk.i64_in _ ⟨by omega, by omega⟩
  have ht : top ≤ 1151 := by omega
  go_enter Try.func5, Try.ntmps5
  go_wp2_with fail
  refine (lkNew _).mono ?_
  rintro e wa ⟨g, m, rfl, hL, hg, hm, hB⟩
  have HL1 := Lib.hid hL
  have HB1 := Lib.hid hB
  have HF1 : Hid (FullAt [] 0) := ⟨rfl, fun k h => (by cases h)⟩
  clear hL hB
  go_wp2_with fail
  go_loopw [4, 5] (fun s4 s5 wr => ∃ (i : Nat) (T : Lk), i ≤ top ∧ s5 = .int .i64 i ∧ s4 = .int .i64 (min i 1024 : Nat) ∧ LkAt wr g m T ∧ FullAt T i ∧ Below w.heap.size w wr) (fun _ i _ => top - (intOf i).toNat)
  case atStart => exact ⟨0, [], Nat.zero_le _, rfl, rfl, HL1.out, HF1.out, HB1.out⟩
  case round =>
    obtain ⟨i, T, hi, rfl, rfl, hL, hF, hB⟩ := hrel
    have HL := Lib.hid hL
    have HF := Lib.hid hF
    have HB := Lib.hid hB
    clear hL hF hB HL1 HF1 HB1
    have hmn : min i 1024 ≤ 1024 := Nat.min_le_right _ _
    by_cases hc : i < top
    · have hcv := keyN_conv wr i (by omega)
      have hb6 : Hid (Below wr.heap.size wr (wr.alloc (.cells #[.int .u8 ((i : Int) % 256), .int .u8 ((i : Int) / 256), .int .u8 107] 5))) := (Below.refl _ _).alloc (Nat.le_refl _) _
      have TK0 := fun W hW => lkTake W (g := g) (m := m) (T := T) (1 + i % 3) ⟨(keyN i).toArray⟩ (by simp only [Nat.reducePow]; omega) (by simp [ByteArray.size, keyN]; unfold maxLen; omega) hW
      have hst := full_step HL.out.rising HF.out (by omega : i < 65536) (1 + i % 3) (by omega)
      simp only [show (⟨(keyN i).toArray⟩ : ByteArray).data.toList = keyN i from rfl, hst.1] at TK0
      have HN := Lib.hid hst.2
      rw [show (((1 + i % 3 : Nat)) : Int) = 1 + (i : Int) % 3 by omega] at TK0
      have TK := Lib.hid TK0
      have HL6 := Lib.hid (HL.out.below hb6.out)
      have HB6 := Lib.hid (below_then HB.out hb6.out)
      clear TK0 hst
      generalize (takeL T (1 + i % 3) (keyN i)).1 = T2 at *
      by_cases hi4 : i < 1024
      · have d : decide (i < 1024) = true := by simpa using hi4
        rw [d, if_pos hi4] at TK
        have hmi : min i 1024 = i := by omega
        have hmj : Hid (min (i + 1) 1024 = i + 1) := by show _ = _; omega
        rw [hmi]
        clear d hmi
        go_wp2_with fail
        refine (TK.out _ HL6.out).mono ?_
        rintro e w7 ⟨rfl, hL7, hG7⟩
        have HL7 := Lib.hid hL7
        have HB7 := Lib.hid (show Below w.heap.size w w7 from HB6.out.grown hG7 HB6.out.size (fun j hj => by cases hj; exact hm))
        clear hL7 hG7 hcv
        go_wp2_with fail
        go_roundw
        case rel => exact ⟨i + 1, T2, by omega, by go_num, by rw [hmj.out]; go_num, HL7.out, HN.out, HB7.out⟩
        case measure => simp [intOf]; omega
      · have d : decide (i < 1024) = false := by simpa using hi4
        rw [d, if_neg hi4] at TK
        have hmi : min i 1024 = 1024 := by omega
        have hmj : Hid (min (i + 1) 1024 = 1024) := by show _ = _; omega
        rw [hmi]
        clear d hmi
        go_wp2_with fail
        refine (TK.out _ HL6.out).mono ?_
        rintro e w7 ⟨rfl, hL7, hG7⟩
        have HL7 := Lib.hid hL7
        have HB7 := Lib.hid (show Below w.heap.size w w7 from HB6.out.grown hG7 HB6.out.size (fun j hj => by cases hj; exact hm))
        clear hL7 hG7 hcv
        go_wp2_with fail
        go_roundw
        case rel => exact ⟨i + 1, T2, by omega, by go_num, by rw [hmj.out]; rfl, HL7.out, HN.out, HB7.out⟩
        case measure => simp [intOf]; omega
    · obtain rfl : i = top := by omega
      have hlen := HF.out.1
      have HLN := Lib.hid fun W (hW : LkAt W g m T) => lkLen W hW
      rw [hlen] at HLN
      clear hlen
      go_wp2_with fail
      refine (lkNil_Take 1 _ _).mono ?_
      rintro e w2 ⟨rfl, rfl⟩
      go_wp2_with fail
      refine (HLN.out _ HL.out).mono ?_
      rintro e w2 ⟨rfl, rfl⟩
      go_wp2_with fail
      refine (lkNil_Let 1 _ _).mono ?_
      rintro e w2 ⟨rfl, rfl⟩
      go_wp2_with fail
      refine (lkNil_Drop 1 _).mono ?_
      rintro e w2 ⟨rfl, rfl⟩
      go_wp2_with fail
      refine (lkNil_Who _ _).mono ?_
      rintro e w2 ⟨rfl, rfl⟩
      go_wp2_with fail
      refine (lkNil_Held 1 _).mono ?_
      rintro e w2 ⟨rfl, rfl⟩
      go_wp2_with fail
      refine (lkNil_Len _).mono ?_
      rintro e w2 ⟨rfl, rfl⟩
      go_wp2_with fail
      refine (works_any _).mono ?_
      rintro e w2 ⟨rfl, h2⟩
      have HB2 := Lib.hid (below_then HB.out h2)
      clear h2
      go_wp2_with fail
      go_ret
      exact ⟨rfl, HB2.out⟩

end Go.Proofs.Ytoeaakadpillnaa
