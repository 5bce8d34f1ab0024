/- The contract of the document's answer for which entry bytes are. -/
import Derived.Test.YtahaikfijegknaaRows
import Derived.Test.YtahaikfijegknaaEntDecode
import Derived.WalkKit
import Derived.WalkLawsBesides
import Derived.WalkSpells
import Derived.LoopTactic
import Derived.WalkMore
import Derived.LoopN
import Derived.Laws.BitsAllLaws
import Derived.Laws.IdiomStrings
import Derived.BigQuiet
import Derived.Deep.QuietTactic
import Derived.Deep.DeepCutAuto
import Derived.Deep.RegionHeld3
import Derived.Deep.DrawnRows
import Derived.Lib.Hide
import Derived.Outline
import Derived.Deep.DeepMust
import Derived.Handy
namespace Go.Proofs.Ytahaikfijegknaa
open Go.RowKit
set_option linter.unusedVariables false
set_option linter.unusedSimpArgs false

set_option maxHeartbeats 1000000 in
set_option maxRecDepth 100000 in
theorem refEntDecode_any (s : ByteArray) (w : World) (hs : s.size ≤ 1000000) :
    Calls Try.prog 33 #[.string s] w fun e w' => e = .returned (decEntV s.data.toList) ∧ Below w.heap.size w w' := by
  have hsm : s.size ≤ maxLen := by unfold maxLen; omega
  have hlen : s.data.toList.length = s.size := by simp
  have l4 := rdNum_lt s.data.toList 0 4
  have hO : Hid (decEntOk s.data.toList = (decide (4 ≤ s.size) && mayEnt (s.size - 4) (rdNum s.data.toList 0 4))) := by show _ = _; unfold decEntOk; rw [hlen]
  have hD : Hid (decEntV s.data.toList = if decEntOk s.data.toList then .tuple #[.agg #[.string ⟨(s.data.toList.drop 4).toArray⟩, .int .u32 (rdNum s.data.toList 0 4)], .int .i64 0] else .tuple #[.agg #[.string ⟨#[]⟩, .int .u32 0], .int .i64 7]) := rfl
  have bR := Lib.hid (heap_alloc_new w (.cells #[.string ⟨#[]⟩, .int .u32 0] 47))
  by_cases h4 : 4 ≤ s.size
  · have hn : rdNum s.data.toList 0 4 = un ((s.data.toList.drop 0).take 4) := by unfold rdNum; rw [if_pos (by rw [hlen]; omega)]
    have c := fun W => refGet_yes s 0 4 W hsm (by omega) (by omega) (by omega)
    rw [← hn] at c
    clear hn hlen
    generalize rdNum s.data.toList 0 4 = n at *
    simp only [Nat.reducePow] at l4
    have C := Lib.hid c
    have wn : IntKind.u32.wrap (n : Int) = n := IntWalk.u32_in _ ⟨by omega, by omega⟩
    have hfin : Hid ((⟨(s.data.toList.drop 4).toArray⟩ : ByteArray) = s.extract 4 s.size) := by
      show _ = _
      apply bytes_ext
      rw [Lib.extract_data]
      exact (List.take_of_length_le (by simp)).symm
    have hm0 : Hid (decEntOk s.data.toList = mayEnt (s.size - 4) n) := by show _ = _; rw [hO.out, decide_eq_true h4, Bool.true_and]
    clear c hO
    by_cases hc : 1 ≤ n ∧ n ≤ 1024 ∧ s.size ≤ 52
    · obtain ⟨h1, h2, h3⟩ := hc
      have hOf : Hid (decEntOk s.data.toList = true) := by show _ = _; rw [hm0.out, mayEnt_iff]; omega
      have e0 : ((n : Int) == 0) = false := by simp; omega
      clear hm0
      go_enter Try.func33, Try.ntmps33
      go_wp2_with fail
      refine (C.out _).mono ?_
      rintro e w1 ⟨rfl, rfl⟩
      go_wp2_with fail
      refine bodyPost_ret (v := .tuple #[.agg #[.string (s.extract 4 s.size), .int .u32 n], .int .i64 0]) (by simp [results, Try.results33, go_sem]) rfl ⟨?_, (Below.refl _ _).alloc (Nat.le_refl _) _⟩
      rw [hD.out, hOf.out, hfin.out]
      rfl
    · have hOf : Hid (decEntOk s.data.toList = false) := by
        show _ = _
        rw [hm0.out, ← Bool.not_eq_true, mayEnt_iff]
        omega
      clear hm0
      by_cases h1 : n = 0
      · subst h1
        go_enter Try.func33, Try.ntmps33
        go_wp2_with fail
        refine (C.out _).mono ?_
        rintro e w1 ⟨rfl, rfl⟩
        go_wp2_with fail
        refine bodyPost_ret (v := .tuple #[.agg #[.string ⟨#[]⟩, .int .u32 0], .int .i64 7]) (by simp [results, Try.results33, go_sem]) rfl ⟨?_, (Below.refl _ _).alloc (Nat.le_refl _) _⟩
        rw [hD.out, hOf.out]
        rfl
      · have e0 : ((n : Int) == 0) = false := by simp; omega
        by_cases h2 : 1024 < n
        · clear hc
          go_enter Try.func33, Try.ntmps33
          go_wp2_with fail
          refine (C.out _).mono ?_
          rintro e w1 ⟨rfl, rfl⟩
          go_wp2_with fail
          refine bodyPost_ret (v := .tuple #[.agg #[.string ⟨#[]⟩, .int .u32 0], .int .i64 7]) (by simp [results, Try.results33, go_sem]) rfl ⟨?_, (Below.refl _ _).alloc (Nat.le_refl _) _⟩
          rw [hD.out, hOf.out]
          rfl
        · have h3 : 52 < s.size := by omega
          clear hc
          go_enter Try.func33, Try.ntmps33
          go_wp2_with fail
          refine (C.out _).mono ?_
          rintro e w1 ⟨rfl, rfl⟩
          go_wp2_with fail
          refine bodyPost_ret (v := .tuple #[.agg #[.string ⟨#[]⟩, .int .u32 0], .int .i64 7]) (by simp [results, Try.results33, go_sem]) rfl ⟨?_, (Below.refl _ _).alloc (Nat.le_refl _) _⟩
          rw [hD.out, hOf.out]
          rfl
  · have C := Lib.hid fun W => refGet_no s 0 4 W hsm (by omega) (by omega) (by omega)
    have hOf : Hid (decEntOk s.data.toList = false) := by show _ = _; rw [hO.out, decide_eq_false h4, Bool.false_and]
    clear hO hlen
    go_enter Try.func33, Try.ntmps33
    go_wp2_with fail
    refine (C.out _).mono ?_
    rintro e w1 ⟨rfl, rfl⟩
    go_wp2_with fail
    refine bodyPost_ret (v := .tuple #[.agg #[.string ⟨#[]⟩, .int .u32 0], .int .i64 7]) (by simp [results, Try.results33, go_sem]) rfl ⟨?_, (Below.refl _ _).alloc (Nat.le_refl _) _⟩
    rw [hD.out, hOf.out]
    rfl

end Go.Proofs.Ytahaikfijegknaa
