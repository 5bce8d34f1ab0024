/- The reference's Decode, where all the pieces fit; The reference's Decode: any bytes -/
import Derived.Test.YtjcfnfpilladfaaRows
import Derived.Test.YtjcfnfpilladfaaEntA
import Derived.WalkKit
import Derived.WalkLawsBesides
import Derived.WalkSpells
import Derived.LoopTactic
import Derived.WalkMore
import Derived.LoopN
import Derived.Laws.BitsAllLaws
import Derived.Laws.IdiomStrings
import Derived.BigQuiet
import Derived.Deep.QuietTactic
import Derived.Deep.DeepCutAuto
import Derived.Deep.RegionHeld3
import Derived.Deep.DrawnRows
import Derived.Lib.Hide
import Derived.Outline
import Derived.Deep.DeepMust
import Derived.Handy
namespace Go.Proofs.Ytjcfnfpilladfaa
open Go.RowKit
set_option linter.unusedVariables false
set_option linter.unusedSimpArgs false

set_option maxHeartbeats 2000000 in
set_option maxRecDepth 100000 in
theorem refDecode_rest (s : ByteArray) (n1 n2 n3 n4 n5 n6 : Nat) (b6 : Bool) (w : World) (hs : s.size ≤ 1000000)
    (C1 : Hid (∀ W, Calls Try.prog 97 #[.string s, .int .i64 0, .int .i64 1] W fun e w' => e = .returned (.tuple #[.int .u64 n1, .bool true]) ∧ W = w'))
    (C2 : Hid (∀ W, Calls Try.prog 97 #[.string s, .int .i64 1, .int .i64 8] W fun e w' => e = .returned (.tuple #[.int .u64 n2, .bool true]) ∧ W = w'))
    (C3 : Hid (∀ W, Calls Try.prog 97 #[.string s, .int .i64 9, .int .i64 4] W fun e w' => e = .returned (.tuple #[.int .u64 n3, .bool true]) ∧ W = w'))
    (C4 : Hid (∀ W, Calls Try.prog 97 #[.string s, .int .i64 13, .int .i64 2] W fun e w' => e = .returned (.tuple #[.int .u64 n4, .bool true]) ∧ W = w'))
    (C5 : Hid (∀ W, Calls Try.prog 97 #[.string s, .int .i64 15, .int .i64 1] W fun e w' => e = .returned (.tuple #[.int .u64 n5, .bool true]) ∧ W = w'))
    (C6 : Hid (∀ W, Calls Try.prog 97 #[.string s, .int .i64 (16 + (n5 : Int)), .int .i64 1] W fun e w' => e = .returned (.tuple #[.int .u64 n6, .bool b6]) ∧ W = w'))
    (HN : Hid (rdNum s.data.toList 0 1 = n1 ∧ rdNum s.data.toList 1 8 = n2 ∧ rdNum s.data.toList 9 4 = n3 ∧ rdNum s.data.toList 13 2 = n4 ∧ dKn s.data.toList = n5 ∧ dVn s.data.toList = n6)) (HE : Hid (dE s.data.toList = 17 + n5 + n6)) (h1 : n1 ≤ 1) (h3 : n3 < 4294967296) (h4 : n4 < 65536) (h5 : n5 < 256) (h6 : n6 < 256) (hfit : b6 = true) (hin : 17 + n5 + n6 ≤ s.size) :
    Calls Try.prog 117 #[.string s] w fun e w' => e = .returned (decV s.data.toList) ∧ Below w.heap.size w w' := by
  subst hfit
  have hlen : s.data.toList.length = s.size := by simp
  obtain ⟨E, hE⟩ : ∃ E : Nat, E = 17 + n5 + n6 := ⟨_, rfl⟩
  have w5 : IntKind.i64.wrap (n5 : Int) = n5 := IntWalk.i64_in _ ⟨by omega, by omega⟩
  have w6 : IntKind.i64.wrap (16 + (n5 : Int)) = 16 + (n5 : Int) := IntWalk.i64_in _ ⟨by omega, by omega⟩
  go_enter Try.func117, Try.ntmps117
  go_wp2_with fail
  refine (C1.out _).mono ?_
  rintro e w1 ⟨rfl, rfl⟩
  go_wp2_with fail
  refine (C2.out _).mono ?_
  rintro e w1 ⟨rfl, rfl⟩
  go_wp2_with fail
  refine (C3.out _).mono ?_
  rintro e w1 ⟨rfl, rfl⟩
  go_wp2_with fail
  refine (C4.out _).mono ?_
  rintro e w1 ⟨rfl, rfl⟩
  go_wp2_with fail
  refine (C5.out _).mono ?_
  rintro e w1 ⟨rfl, rfl⟩
  go_wp2_with fail
  refine (C6.out _).mono ?_
  rintro e w1 ⟨rfl, rfl⟩
  go_wp2_with fail
  first | rw [show 16 + (n5 : Int) + 1 + (n6 : Int) = (E : Int) by omega] | rw [show 17 + (n5 : Int) + (n6 : Int) = (E : Int) by omega]
  generalize hw0 : w.alloc (Obj.cells #[.string ⟨#[]⟩, .bool false, .int .u64 0, .int .u32 0, .int .u16 0, .string ⟨#[]⟩, .int .i64 0] 87) = w0
  have bR : w0.heap[w.heap.size]? = some (.cells #[.string ⟨#[]⟩, .bool false, .int .u64 0, .int .u32 0, .int .u16 0, .string ⟨#[]⟩, .int .i64 0] 87 (0, 0)) := by rw [← hw0]; exact heap_alloc_new _ _
  have hbl : Hid (Below w.heap.size w w0) := by rw [← hw0]; exact (Below.refl _ _).alloc (Nat.le_refl _) _
  clear hw0
  have r0 := blk_cell bR 0
  have r1 := blk_cell bR 1
  have r2 := blk_cell bR 2
  have r3 := blk_cell bR 3
  have r4 := blk_cell bR 4
  have r5 := blk_cell bR 5
  have r6 := blk_cell bR 6
  have g0 := blk_frozen bR 0
  have g1 := blk_frozen bR 1
  have g2 := blk_frozen bR 2
  have g3 := blk_frozen bR 3
  have g4 := blk_frozen bR 4
  have g5 := blk_frozen bR 5
  have g6 := blk_frozen bR 6
  have Br := Lib.hid bR
  clear bR
  clear C1 C2 C3 C4 C5 C6
  go_loopw [18] (fun n wr => ∃ k : Nat, E ≤ k ∧ k ≤ s.size ∧ zerosTo s.data.toList E k ∧ n = .int .i64 k ∧ wr = w0) (fun n _ => s.size - (intOf n).toNat)
  case atStart => exact ⟨E, Nat.le_refl _, by omega, fun j a b => absurd b (by omega), rfl, rfl⟩
  case round =>
    obtain ⟨k, hk1, hk2, hk3, rfl, rfl⟩ := hrel
    by_cases hk : k < s.size
    · have hk' : k < s.data.toList.length := by omega
      by_cases hsk : s[k] = 0
      · have hz := zerosTo_step hk3 hk' hsk
        have hx : ((s[k].toNat : Int) == 0) = true := by simp [hsk]
        clear hsk hk3
        go_wp2_with fail
        go_roundw
        case rel => exact ⟨k + 1, by omega, by omega, hz, by go_num, trivial⟩
        case measure => simp [intOf]; omega
      · have hx : ((s[k].toNat : Int) == 0) = false := by
          have : s[k].toNat ≠ 0 := fun h => hsk (UInt8.toNat_inj.1 (by simpa using h))
          simp; omega
        have HO : Hid (decOk s.data.toList = false) := decOk_tail s.data.toList k (by rw [HE.out]; omega) hk' hsk
        clear hsk hk3
        go_wp2_with fail
        have q := row_res Br.out (.string ⟨#[]⟩) (.bool false) (.int .u64 0) (.int .u32 0) (.int .u16 0) (.string ⟨#[]⟩) (.int .i64 0)
        obtain ⟨q0, q1, q2, q3, q4, q5, q6⟩ := q
        refine bodyPost_ret (v := .tuple #[.agg #[.string ⟨#[]⟩, .bool false, .int .u64 0, .int .u32 0, .int .u16 0, .string ⟨#[]⟩, .int .i64 0], .int .i64 7]) (by simp [results, Try.results117, go_sem, q0, q1, q2, q3, q4, q5, q6]) rfl ⟨?_, ((((((hbl.out.setCell (Nat.le_refl _) _).setCell (Nat.le_refl _) _).setCell (Nat.le_refl _) _).setCell (Nat.le_refl _) _).setCell (Nat.le_refl _) _).setCell (Nat.le_refl _) _).setCell (Nat.le_refl _) _⟩
        rw [decV_bad HO.out]
    · obtain rfl : k = s.size := by omega
      have ht : s.data.toList.drop E = List.replicate (s.size - E) 0 := by
        have := zerosTo_all (l := s.data.toList) (e := E) (by rw [hlen]; exact hk3)
        rwa [hlen] at this
      clear hk3
      go_wp2_with fail
      have wa : IntKind.i64.wrap (16 + (n5 : Int) + 1) = 16 + (n5 : Int) + 1 := IntWalk.i64_in _ ⟨by omega, by omega⟩
      have wp : IntKind.i64.wrap ((s.size : Int) - (E : Int)) = (s.size : Int) - (E : Int) := IntWalk.i64_in _ ⟨by omega, by omega⟩
      have w3 : IntKind.u32.wrap (n3 : Int) = n3 := IntWalk.u32_in _ ⟨by omega, by omega⟩
      have w4 : IntKind.u16.wrap (n4 : Int) = n4 := IntWalk.u16_in _ ⟨by omega, by omega⟩
      have s1 : 16 + (n5 : Int) ≤ (s.size : Int) := by omega
      have s2 : (0 : Int) ≤ 16 + (n5 : Int) := by omega
      have s3 : 16 + (n5 : Int) + 1 ≤ (E : Int) := by omega
      have s4 : (0 : Int) ≤ 16 + (n5 : Int) + 1 := by omega
      have s5 : (E : Int) ≤ (s.size : Int) := by omega
      have s6 : (16 : Int) ≤ 16 + (n5 : Int) := by omega
      have HEE := Lib.hid hE
      have HI := Lib.hid hin
      have HT := Lib.hid ht
      clear hE hk1 hk2 hin ht
      go_region_held3 (fun w' => True) (trivial) (fail)
      obtain ⟨kS, hk⟩ : ∃ y, s.extract 16 (16 + (n5 : Int)).toNat = y := ⟨_, rfl⟩
      obtain ⟨vS, hv⟩ : ∃ y, s.extract (16 + (n5 : Int) + 1).toNat E = y := ⟨_, rfl⟩
      obtain ⟨mk, hm⟩ : ∃ y, ((n1 : Int) == 1) = y := ⟨_, rfl⟩
      obtain ⟨pad, hp⟩ : ∃ y, (s.size : Int) - (E : Int) = y := ⟨_, rfl⟩
      obtain ⟨d1, d2, d3, d4, d5, d6⟩ := HN.out
      have hD := decV_fit s n1 n2 n3 n4 n5 n6 E d1 d2 d3 d4 d5 d6 HEE.out HI.out h1 HT.out kS vS mk pad hk hv hm hp
      have zk : kS.size ≤ s.size := by rw [← hk]; simp; omega
      have zv : vS.size ≤ s.size := by rw [← hv]; simp; omega
      clear d1 d2 d3 d4 d5 d6
      simp only [hk, hv, hm, hp]
      generalize hW : (wr.alloc (Obj.cells #[.string kS, .bool mk, .int .u64 n2, .int .u32 n3, .int .u16 n4, .string vS, .int .i64 pad] 87)).drew = W
      have bX : W.heap[wr.heap.size]? = some (.cells #[.string kS, .bool mk, .int .u64 n2, .int .u32 n3, .int .u16 n4, .string vS, .int .i64 pad] 87 (0, 0)) := by rw [← hW]; exact heap_alloc_new wr _
      have bR : W.heap[w.heap.size]? = some (.cells #[.string ⟨#[]⟩, .bool false, .int .u64 0, .int .u32 0, .int .u16 0, .string ⟨#[]⟩, .int .i64 0] 87 (0, 0)) := by rw [← hW]; exact heap_keep Br.out
      have hb1 : Hid (Below w.heap.size w W) := by rw [← hW]; exact (hbl.out.alloc hbl.out.size _).drew
      clear hW hk hv hm hp r0 r1 r2 r3 r4 r5 r6 g0 g1 g2 g3 g4 g5 g6 Br hbl
      generalize wr.heap.size = X at bX ⊢
      have x0 := blk_cell bX 0
      have x1 := blk_cell bX 1
      have x2 := blk_cell bX 2
      have x3 := blk_cell bX 3
      have x4 := blk_cell bX 4
      have x5 := blk_cell bX 5
      have x6 := blk_cell bX 6
      have BX := Lib.hid bX
      have BR := Lib.hid bR
      clear bX bR
      have M := Lib.hid fun W => refMay_any kS vS mk n2 n3 n4 pad W (by unfold maxLen; omega) (by unfold maxLen; omega)
      have HD0 := Lib.hid hD
      clear hD
      generalize mayRow kS.size vS.size n3 n4 pad = b at HD0 M
      go_wp2_with fail
      refine (M.out _).mono ?_
      rintro e w9 ⟨rfl, hb9⟩
      have bX := (hb9.block _ (blk_lt BX.out)).trans BX.out
      have bR := (hb9.block _ (blk_lt BR.out)).trans BR.out
      have hbb := Lib.hid (hb1.out.trans (hb9.mono hb1.out.size))
      clear hb9 x0 x1 x2 x3 x4 x5 x6
      have x0 := blk_cell bX 0
      have r0 := blk_cell bR 0
      have g0 := blk_frozen bR 0
      have x1 := blk_cell bX 1
      have r1 := blk_cell bR 1
      have g1 := blk_frozen bR 1
      have x2 := blk_cell bX 2
      have r2 := blk_cell bR 2
      have g2 := blk_frozen bR 2
      have x3 := blk_cell bX 3
      have r3 := blk_cell bR 3
      have g3 := blk_frozen bR 3
      have x4 := blk_cell bX 4
      have r4 := blk_cell bR 4
      have g4 := blk_frozen bR 4
      have x5 := blk_cell bX 5
      have r5 := blk_cell bR 5
      have g5 := blk_frozen bR 5
      have x6 := blk_cell bX 6
      have r6 := blk_cell bR 6
      have g6 := blk_frozen bR 6
      have Br1 := Lib.hid bR
      clear bX bR
      cases b with
      | false =>
        have HD := HD0
        go_wp2_with fail
        have q := row_res Br1.out (.string ⟨#[]⟩) (.bool false) (.int .u64 0) (.int .u32 0) (.int .u16 0) (.string ⟨#[]⟩) (.int .i64 0)
        obtain ⟨q0, q1, q2, q3, q4, q5, q6⟩ := q
        refine bodyPost_ret (v := .tuple #[.agg #[.string ⟨#[]⟩, .bool false, .int .u64 0, .int .u32 0, .int .u16 0, .string ⟨#[]⟩, .int .i64 0], .int .i64 7]) (by simp [results, Try.results117, go_sem, q0, q1, q2, q3, q4, q5, q6]) rfl ⟨?_, ((((((hbb.out.setCell (Nat.le_refl _) _).setCell (Nat.le_refl _) _).setCell (Nat.le_refl _) _).setCell (Nat.le_refl _) _).setCell (Nat.le_refl _) _).setCell (Nat.le_refl _) _).setCell (Nat.le_refl _) _⟩
        rw [HD.out]
        rfl
      | true =>
        have HD := HD0
        go_wp2_with fail
        have q := row_res Br1.out (.string kS) (.bool mk) (.int .u64 n2) (.int .u32 n3) (.int .u16 n4) (.string vS) (.int .i64 pad)
        obtain ⟨q0, q1, q2, q3, q4, q5, q6⟩ := q
        refine bodyPost_ret (v := .tuple #[.agg #[.string kS, .bool mk, .int .u64 n2, .int .u32 n3, .int .u16 n4, .string vS, .int .i64 pad], .int .i64 0]) (by simp [results, Try.results117, go_sem, q0, q1, q2, q3, q4, q5, q6]) rfl ⟨?_, ((((((hbb.out.setCell (Nat.le_refl _) _).setCell (Nat.le_refl _) _).setCell (Nat.le_refl _) _).setCell (Nat.le_refl _) _).setCell (Nat.le_refl _) _).setCell (Nat.le_refl _) _).setCell (Nat.le_refl _) _⟩
        rw [HD.out]
        rfl

end Go.Proofs.Ytjcfnfpilladfaa

namespace Go.Proofs.Ytjcfnfpilladfaa
open Go.RowKit
set_option linter.unusedVariables false
set_option linter.unusedSimpArgs false

set_option maxHeartbeats 2000000 in
set_option maxRecDepth 100000 in
theorem refDecode_cut (s : ByteArray) (n1 n2 n3 n4 n5 n6 : Nat) (w : World) (hs : s.size ≤ 1000000)
    (C1 : Hid (∀ W, Calls Try.prog 97 #[.string s, .int .i64 0, .int .i64 1] W fun e w' => e = .returned (.tuple #[.int .u64 n1, .bool true]) ∧ W = w'))
    (C2 : Hid (∀ W, Calls Try.prog 97 #[.string s, .int .i64 1, .int .i64 8] W fun e w' => e = .returned (.tuple #[.int .u64 n2, .bool true]) ∧ W = w'))
    (C3 : Hid (∀ W, Calls Try.prog 97 #[.string s, .int .i64 9, .int .i64 4] W fun e w' => e = .returned (.tuple #[.int .u64 n3, .bool true]) ∧ W = w'))
    (C4 : Hid (∀ W, Calls Try.prog 97 #[.string s, .int .i64 13, .int .i64 2] W fun e w' => e = .returned (.tuple #[.int .u64 n4, .bool true]) ∧ W = w'))
    (C5 : Hid (∀ W, Calls Try.prog 97 #[.string s, .int .i64 15, .int .i64 1] W fun e w' => e = .returned (.tuple #[.int .u64 n5, .bool true]) ∧ W = w'))
    (C6 : Hid (∀ W, Calls Try.prog 97 #[.string s, .int .i64 (16 + (n5 : Int)), .int .i64 1] W fun e w' => e = .returned (.tuple #[.int .u64 n6, .bool false]) ∧ W = w'))
    (h1 : n1 ≤ 1) (h5 : n5 < 256) (h6 : n6 < 256) (HO : Hid (decOk s.data.toList = false)) :
    Calls Try.prog 117 #[.string s] w fun e w' => e = .returned (decV s.data.toList) ∧ Below w.heap.size w w' := by
  have w5 : IntKind.i64.wrap (n5 : Int) = n5 := IntWalk.i64_in _ ⟨by omega, by omega⟩
  have w6 : IntKind.i64.wrap (16 + (n5 : Int)) = 16 + (n5 : Int) := IntWalk.i64_in _ ⟨by omega, by omega⟩
  go_enter Try.func117, Try.ntmps117
  go_wp2_with fail
  refine (C1.out _).mono ?_
  rintro e w1 ⟨rfl, rfl⟩
  go_wp2_with fail
  refine (C2.out _).mono ?_
  rintro e w1 ⟨rfl, rfl⟩
  go_wp2_with fail
  refine (C3.out _).mono ?_
  rintro e w1 ⟨rfl, rfl⟩
  go_wp2_with fail
  refine (C4.out _).mono ?_
  rintro e w1 ⟨rfl, rfl⟩
  go_wp2_with fail
  refine (C5.out _).mono ?_
  rintro e w1 ⟨rfl, rfl⟩
  go_wp2_with fail
  refine (C6.out _).mono ?_
  rintro e w1 ⟨rfl, rfl⟩
  go_wp2_with fail
  refine bodyPost_ret (v := .tuple #[.agg #[.string ⟨#[]⟩, .bool false, .int .u64 0, .int .u32 0, .int .u16 0, .string ⟨#[]⟩, .int .i64 0], .int .i64 7]) (by simp [results, Try.results117, go_sem]) rfl ⟨?_, (Below.refl _ _).alloc (Nat.le_refl _) _⟩
  rw [decV_bad HO.out]

set_option maxHeartbeats 2000000 in
set_option maxRecDepth 100000 in
theorem refDecode_long (s : ByteArray) (n1 n2 n3 n4 n5 n6 : Nat) (w : World) (hs : s.size ≤ 1000000)
    (C1 : Hid (∀ W, Calls Try.prog 97 #[.string s, .int .i64 0, .int .i64 1] W fun e w' => e = .returned (.tuple #[.int .u64 n1, .bool true]) ∧ W = w'))
    (C2 : Hid (∀ W, Calls Try.prog 97 #[.string s, .int .i64 1, .int .i64 8] W fun e w' => e = .returned (.tuple #[.int .u64 n2, .bool true]) ∧ W = w'))
    (C3 : Hid (∀ W, Calls Try.prog 97 #[.string s, .int .i64 9, .int .i64 4] W fun e w' => e = .returned (.tuple #[.int .u64 n3, .bool true]) ∧ W = w'))
    (C4 : Hid (∀ W, Calls Try.prog 97 #[.string s, .int .i64 13, .int .i64 2] W fun e w' => e = .returned (.tuple #[.int .u64 n4, .bool true]) ∧ W = w'))
    (C5 : Hid (∀ W, Calls Try.prog 97 #[.string s, .int .i64 15, .int .i64 1] W fun e w' => e = .returned (.tuple #[.int .u64 n5, .bool true]) ∧ W = w'))
    (C6 : Hid (∀ W, Calls Try.prog 97 #[.string s, .int .i64 (16 + (n5 : Int)), .int .i64 1] W fun e w' => e = .returned (.tuple #[.int .u64 n6, .bool true]) ∧ W = w'))
    (h1 : n1 ≤ 1) (h5 : n5 < 256) (h6 : n6 < 256) (hout : s.size < 17 + n5 + n6) (HO : Hid (decOk s.data.toList = false)) :
    Calls Try.prog 117 #[.string s] w fun e w' => e = .returned (decV s.data.toList) ∧ Below w.heap.size w w' := by
  have w5 : IntKind.i64.wrap (n5 : Int) = n5 := IntWalk.i64_in _ ⟨by omega, by omega⟩
  have w6 : IntKind.i64.wrap (16 + (n5 : Int)) = 16 + (n5 : Int) := IntWalk.i64_in _ ⟨by omega, by omega⟩
  go_enter Try.func117, Try.ntmps117
  go_wp2_with fail
  refine (C1.out _).mono ?_
  rintro e w1 ⟨rfl, rfl⟩
  go_wp2_with fail
  refine (C2.out _).mono ?_
  rintro e w1 ⟨rfl, rfl⟩
  go_wp2_with fail
  refine (C3.out _).mono ?_
  rintro e w1 ⟨rfl, rfl⟩
  go_wp2_with fail
  refine (C4.out _).mono ?_
  rintro e w1 ⟨rfl, rfl⟩
  go_wp2_with fail
  refine (C5.out _).mono ?_
  rintro e w1 ⟨rfl, rfl⟩
  go_wp2_with fail
  refine (C6.out _).mono ?_
  rintro e w1 ⟨rfl, rfl⟩
  go_wp2_with fail
  refine bodyPost_ret (v := .tuple #[.agg #[.string ⟨#[]⟩, .bool false, .int .u64 0, .int .u32 0, .int .u16 0, .string ⟨#[]⟩, .int .i64 0], .int .i64 7]) (by simp [results, Try.results117, go_sem]) rfl ⟨?_, (Below.refl _ _).alloc (Nat.le_refl _) _⟩
  rw [decV_bad HO.out]

theorem refDecode_any (s : ByteArray) (w : World) (hs : s.size ≤ 1000000) :
    Calls Try.prog 117 #[.string s] w fun e w' => e = .returned (decV s.data.toList) ∧ Below w.heap.size w w' := by
  have hlen : s.data.toList.length = s.size := by simp
  have hA : dA s.data.toList = 15 + 1 + dKn s.data.toList := rfl
  have hE : dE s.data.toList = dA s.data.toList + 1 + dVn s.data.toList := rfl
  have l1 := rdNum_lt s.data.toList 0 1
  have l3 := rdNum_lt s.data.toList 9 4
  have l4 := rdNum_lt s.data.toList 13 2
  have l5 : dKn s.data.toList < 2 ^ (8 * 1) := rdNum_lt s.data.toList 15 1
  have l6 : dVn s.data.toList < 2 ^ (8 * 1) := rdNum_lt s.data.toList (dA s.data.toList) 1
  simp only [Nat.reducePow, Nat.reduceMul] at l1 l3 l4 l5 l6
  have c1 := fun W => refGet_any s 0 1 W hs (by omega) (by omega) (by omega)
  have c2 := fun W => refGet_any s 1 8 W hs (by omega) (by omega) (by omega)
  have c3 := fun W => refGet_any s 9 4 W hs (by omega) (by omega) (by omega)
  have c4 := fun W => refGet_any s 13 2 W hs (by omega) (by omega) (by omega)
  have c5 := fun W => refGet_any s 15 1 W hs (by omega) (by omega) (by omega)
  have c6 := fun W => refGet_any s (dA s.data.toList) 1 W hs (by omega) (by omega) (by omega)
  by_cases h16 : 16 ≤ s.size
  · rw [decide_eq_true (by omega)] at c1 c2 c3 c4 c5
    by_cases hm : rdNum s.data.toList 0 1 ≤ 1
    · have hc : ((dA s.data.toList : Nat) : Int) = 16 + (dKn s.data.toList : Int) := by omega
      rw [hc] at c6
      by_cases h6 : dA s.data.toList + 1 ≤ s.size
      · rw [decide_eq_true h6] at c6
        by_cases hfit : dE s.data.toList ≤ s.size
        · exact refDecode_rest s _ _ _ _ (dKn s.data.toList) (dVn s.data.toList) true w hs (Lib.hid c1) (Lib.hid c2) (Lib.hid c3) (Lib.hid c4) (Lib.hid c5) (Lib.hid c6) (Lib.hid ⟨rfl, rfl, rfl, rfl, rfl, rfl⟩) (Lib.hid (by omega)) hm l3 l4 l5 l6 rfl (by omega)
        · exact refDecode_long s _ _ _ _ (dKn s.data.toList) (dVn s.data.toList) w hs (Lib.hid c1) (Lib.hid c2) (Lib.hid c3) (Lib.hid c4) (Lib.hid c5) (Lib.hid c6) hm l5 l6 (by omega) (Lib.hid (decOk_short _ (by omega)))
      · rw [decide_eq_false h6] at c6
        exact refDecode_cut s _ _ _ _ (dKn s.data.toList) (dVn s.data.toList) w hs (Lib.hid c1) (Lib.hid c2) (Lib.hid c3) (Lib.hid c4) (Lib.hid c5) (Lib.hid c6) hm l5 l6 (Lib.hid (decOk_short _ (by omega)))
    · exact refDecode_mark s _ _ _ _ _ w (Lib.hid c1) (Lib.hid c2) (Lib.hid c3) (Lib.hid c4) (Lib.hid c5) (by omega) (by omega) (Lib.hid (decOk_mark _ (by omega)))
  · refine refDecode_chain s _ _ _ _ _ _ _ _ _ _ w (Lib.hid c1) (Lib.hid c2) (Lib.hid c3) (Lib.hid c4) (Lib.hid c5) ?_ (Lib.hid (decOk_short _ (by omega)))
    rw [decide_eq_false (p := 15 + 1 ≤ s.size) (by omega)]
    simp

end Go.Proofs.Ytjcfnfpilladfaa
