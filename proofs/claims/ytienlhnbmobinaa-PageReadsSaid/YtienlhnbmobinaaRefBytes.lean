/- The document's area: Bytes. -/
import Derived.Test.YtienlhnbmobinaaRows
import Derived.Test.YtienlhnbmobinaaRefRoot
import Derived.Test.YtienlhnbmobinaaSlotRoot
import Derived.Test.YtienlhnbmobinaaBase
import Derived.WalkKit
import Derived.WalkLawsBesides
import Derived.WalkSpells
import Derived.LoopTactic
import Derived.WalkMore
import Derived.LoopN
import Derived.Laws.BitsAllLaws
import Derived.Laws.IdiomStrings
import Derived.BigQuiet
import Derived.Deep.QuietTactic
import Derived.Deep.DeepCutAuto
import Derived.Deep.RegionHeld3
import Derived.Deep.DrawnRows
import Derived.Lib.Hide
import Derived.Outline
import Derived.Deep.DeepMust
import Derived.Handy
namespace Go.Proofs.Ytienlhnbmobinaa
open Go.RowKit
set_option linter.unusedVariables false
set_option linter.unusedSimpArgs false

set_option maxHeartbeats 4000000 in
set_option maxRecDepth 100000 in
theorem refBytes_begin (g gB cap : Nat) (v : Value) (a : Ar) (w : World) (ha : a.Fit) (hin : ∀ p ∈ a.L, p.1 < 256 ^ 2 ∧ p.2 < 256 ^ 2) (h : RefAt w g gB cap v a) :
    Calls Try.prog 104 #[.pointer (some ⟨g, 0, none⟩)] w fun e w' => ∃ s : ByteArray, e = .returned (.string s) ∧ s.data.toList = a.enc ∧ Below w.heap.size w w' := by
  have hn := ha.n
  have b1 := ha.l
  have b2 := ha.hi
  have P1 := Lib.hid fun W => refTwo_any a.L.length W (by simp; omega)
  have P2 := Lib.hid fun W => refTwo_any a.low W (by simp; omega)
  have c2 := h.c2
  have c1 := h.c1
  obtain ⟨b, cp, rfl, hcp, hcm, hbb⟩ := dir_form h.dir
  have H := Lib.hid h
  have hl1 := cell_lt c1
  have key1 : ∀ w1, Below w.heap.size w w1 → w1.cell? ⟨g, 1, none⟩ = some (.int .i64 (a.low : Nat)) := fun w1 hb => (h.below hb).c1
  have key2 : ∀ w1, Below w.heap.size w w1 → w1.cell? ⟨g, 2, none⟩ = some (.slice b a.L.length cp) := fun w1 hb => (h.below hb).c2
  have K1 := Lib.hid key1
  have K2 := Lib.hid key2
  clear h key1 key2
  generalize hX1 : (⟨(be 2 a.L.length).toArray⟩ : ByteArray) = X1 at *
  generalize hX2 : (⟨(be 2 a.low).toArray⟩ : ByteArray) = X2 at *
  have s1 : X1.size = 2 := by simp [← hX1, ByteArray.size, be_length]
  have s2 : X2.size = 2 := by simp [← hX2, ByteArray.size, be_length]
  have s3 : X1.size + X2.size ≤ maxLen := by unfold maxLen; omega
  have s4 : ¬ maxLen < X1.size + X2.size := by omega
  have sl : Hid ((X1 ++ X2).data.toList = be 2 a.L.length ++ (be 2 a.low ++ ents (a.L.take 0))) := by show _ = _; rw [← hX1, ← hX2]; simp [ents]
  clear hX1 hX2
  go_enter Try.func104, Try.ntmps104
  go_upto_region 1 with fail
  go_cut [3] (fun s3 w' => s3 = .string (X1 ++ X2) ∧ Below w.heap.size w w')
  case first =>
    go_region_held3 (fun w' => w'.cell? ⟨g, 1, none⟩ = some (.int .i64 (a.low : Nat)) ∧ w'.cell? ⟨g, 2, none⟩ = some (.slice b a.L.length cp)) (first
        | (with_reducible exact ⟨c1, c2⟩)
        | exact ⟨K1.out _ (below_then (Below.refl _ _).drew h1), K2.out _ (below_then (Below.refl _ _).drew h1)⟩
        | exact ⟨K1.out _ (below_then (Below.refl _ _).drew h2), K2.out _ (below_then (Below.refl _ _).drew h2)⟩
        | exact ⟨K1.out _ (below_then (below_then (Below.refl _ _).drew h1) h2), K2.out _ (below_then (below_then (Below.refl _ _).drew h1) h2)⟩
        | exact ⟨K1.out _ (below_then (below_then (Below.refl _ _).drew h2) h1), K2.out _ (below_then (below_then (Below.refl _ _).drew h2) h1)⟩
        | exact ⟨c1, c2⟩) (first
      | (go_at_call_of 171 (Value.int .i64 ((a.L.length : Nat) : Int)); refine (P1.out _).mono ?_; rintro e w1 ⟨rfl, h1⟩)
      | (go_at_call_of 171 (Value.int .i64 ((a.low : Nat) : Int)); refine (P2.out _).mono ?_; rintro e w2 ⟨rfl, h2⟩))
    all_goals go_wp2_with fail
    all_goals go_meet
    all_goals exact ⟨rfl, below_then (below_then (Below.refl _ _).drew h1) h2⟩
  case rest =>
    obtain ⟨rfl, hb⟩ := hcut
    have HB := Lib.hid hb
    clear hb s3 s4 P1 P2 c1 c2
    go_wp2_with fail
    go_loopw [3, 4] (fun s3 s4 wr => ∃ i : Nat, i ≤ a.L.length ∧ s4 = .int .i64 i ∧ (∃ S : ByteArray, s3 = .string S ∧ S.data.toList = be 2 a.L.length ++ (be 2 a.low ++ ents (a.L.take i))) ∧ Below w.heap.size w wr) (fun _ i _ => a.L.length - (intOf i).toNat)
    case atStart => exact ⟨0, Nat.zero_le _, rfl, ⟨_, rfl, sl.out⟩, HB.out⟩
    case round =>
      obtain ⟨i, hi, rfl, ⟨S, rfl, hS⟩, hbw⟩ := hrel
      have c2 := K2.out _ hbw
      have c1 := K1.out _ hbw
      have HBW := Lib.hid hbw
      by_cases hc : i < a.L.length
      · obtain ⟨gd, rfl⟩ := hbb (by omega)
        have hp := hin (a.L[i]'hc) (List.getElem_mem hc)
        have hrows := fun w1 (hb : Below w.heap.size w w1) => (H.out.below hb).dir
        have d0 := dir_cell (hrows _ hbw) (i * 2) _ (places_from a.L i hc)
        have d1 := dir_cell (hrows _ hbw) (i * 2 + 1) _ (places_size a.L i hc)
        have D0 := Lib.hid fun w1 hb => dir_cell (hrows w1 hb) (i * 2) _ (places_from a.L i hc)
        have D1 := Lib.hid fun w1 hb => dir_cell (hrows w1 hb) (i * 2 + 1) _ (places_size a.L i hc)
        have P1 := Lib.hid fun W => refTwo_any a.L[i].1 W hp.1
        have P2 := Lib.hid fun W => refTwo_any a.L[i].2 W hp.2
        have hSs : S.size = 4 + 4 * i := by
          have := congrArg List.length hS
          simp [be_length, ents_length] at this
          omega
        have sl2 : Hid (∀ X Y : ByteArray, X = ⟨(be 2 a.L[i].1).toArray⟩ → Y = ⟨(be 2 a.L[i].2).toArray⟩ → (S ++ X ++ Y).data.toList = be 2 a.L.length ++ (be 2 a.low ++ ents (a.L.take (i + 1)))) := by
          intro X Y hX hY
          rw [hX, hY, List.take_succ_eq_append_getElem hc, ents_append]
          simp [ents, hS]
        clear hrows hbw hS
        have e1 : Hid (((⟨(be 2 a.L[i].1).toArray⟩ : ByteArray)).size = 2) := by show _ = _; simp [ByteArray.size, be_length]
        have e2 : Hid (((⟨(be 2 a.L[i].2).toArray⟩ : ByteArray)).size = 2) := by show _ = _; simp [ByteArray.size, be_length]
        have SL := Lib.hid (sl2.out _ _ rfl rfl)
        clear sl2
        generalize (⟨(be 2 a.L[i].1).toArray⟩ : ByteArray) = X at *
        generalize (⟨(be 2 a.L[i].2).toArray⟩ : ByteArray) = Y at *
        generalize a.L[i].1 = fr at *
        generalize a.L[i].2 = sz at *
        have t1 : X.size = 2 := e1.out
        have t2 : Y.size = 2 := e2.out
        have t3 : S.size + X.size ≤ maxLen := by unfold maxLen; omega
        have t4 : (S ++ X).size + Y.size ≤ maxLen := by rw [ByteArray.size_append]; unfold maxLen; omega
        have t5 : ¬ maxLen < S.size + X.size := by omega
        have t6 : ¬ maxLen < (S ++ X).size + Y.size := by omega
        have t7 : S.size + X.size + Y.size ≤ maxLen := by unfold maxLen; omega
        have q1 : (0 : Int) ≤ (i : Int) := by omega
        have q2 : (i : Int) < (a.L.length : Int) := by omega
        have t8 : 4 + 4 * i + 2 ≤ maxLen := by unfold maxLen; omega
        have ta : 4 + 4 * i + 2 ≤ 9223372036854775807 := by omega
        have tb : 4 + 4 * i + 2 + 2 ≤ 9223372036854775807 := by omega
        have tc : ¬ 9223372036854775807 < 4 + 4 * i + 2 := by omega
        have td : ¬ 9223372036854775807 < 4 + 4 * i + 2 + 2 := by omega
        have te : ¬ maxLen < 4 + 4 * i + 2 := by omega
        have tf : 4 + 4 * i + 4 ≤ maxLen := by unfold maxLen; omega
        have t9 : 4 + 4 * i + 2 + 2 ≤ maxLen := by unfold maxLen; omega
        clear hin hn b1 b2 hp s1 s2 sl hbb
        go_upto_region 5 with fail
        go_region_held3 (fun w' => w'.cell? ⟨g, 2, none⟩ = some (.slice (some ⟨gd, 0, none⟩) a.L.length cp) ∧ w'.cell? ⟨gd, i * 2, none⟩ = some (.int .i64 (fr : Nat)) ∧ w'.cell? ⟨gd, i * 2 + 1, none⟩ = some (.int .i64 (sz : Nat))) (first
            | (with_reducible exact ⟨c2, d0, d1⟩)
            | exact ⟨K2.out _ (HBW.out.trans ((below_then (Below.refl _ _).drew h1).mono HBW.out.size)), D0.out _ (HBW.out.trans ((below_then (Below.refl _ _).drew h1).mono HBW.out.size)), D1.out _ (HBW.out.trans ((below_then (Below.refl _ _).drew h1).mono HBW.out.size))⟩
            | exact ⟨K2.out _ (HBW.out.trans ((below_then (below_then (Below.refl _ _).drew h1) h2).mono HBW.out.size)), D0.out _ (HBW.out.trans ((below_then (below_then (Below.refl _ _).drew h1) h2).mono HBW.out.size)), D1.out _ (HBW.out.trans ((below_then (below_then (Below.refl _ _).drew h1) h2).mono HBW.out.size))⟩
            | exact ⟨c2, d0, d1⟩) (first
          | (go_at_call_of 171 (Value.int .i64 ((fr : Nat) : Int)); refine (P1.out _).mono ?_; rintro e w1 ⟨rfl, h1⟩)
          | (go_at_call_of 171 (Value.int .i64 ((sz : Nat) : Int)); refine (P2.out _).mono ?_; rintro e w2 ⟨rfl, h2⟩))
        all_goals go_wp2_with fail
        all_goals go_roundw
        case rel => exact ⟨i + 1, by omega, by go_num, ⟨_, rfl, SL.out⟩, HBW.out.trans ((below_then (below_then (Below.refl _ _).drew h1) h2).mono HBW.out.size)⟩
        case measure => simp [intOf]; omega
      · obtain rfl : i = a.L.length := by omega
        have hA := H.out.below hbw
        have c0 := hA.c0
        have hroom := hA.room
        have hrow := hA.row
        have hff := ha.f
        have hSs : S.size = a.fin := by
          have := congrArg List.length hS
          simp [be_length, ents_length] at this
          unfold Ar.fin
          omega
        have hE : Hid (∀ T : ByteArray, T.data.toList = a.B.drop a.fin → (S ++ T).data.toList = a.enc) := by
          intro T hT
          have hS' := hS
          rw [List.take_length] at hS'
          unfold Ar.enc
          simp [hS', hT]
        have hFl : a.fin ≤ a.B.length := by omega
        clear hA hS hbw hin s1 s2 sl hff
        generalize a.fin = F at *
        have hcv : (convert 70 9 (.slice (some ⟨gB, F, none⟩) (a.B.length - F) (cap - F))).run Try.prog wr = .ok (.string ⟨((a.B.drop F).take (a.B.length - F)).toArray⟩) wr :=
          run_part hrow (by omega) _ 5 _ Try.underlying70 Try.underlying5 Try.underlying9
        have hDl : Hid ((a.B.drop F).take (a.B.length - F) = a.B.drop F) := by show _ = _; exact List.take_of_length_le (by simp)
        rw [hDl.out] at hcv
        have hTs : (⟨(a.B.drop F).toArray⟩ : ByteArray).size = a.B.length - F := by simp [ByteArray.size]
        have ET := Lib.hid (hE.out ⟨(a.B.drop F).toArray⟩ (by simp))
        have E0 := hE
        have q1 : (F : Int) ≤ (a.B.length : Int) := by omega
        have q2 : (F : Int) ≤ (cap : Int) := by omega
        have tb : F + (a.B.length - F) ≤ maxLen := by unfold maxLen; omega
        have tc : F + (a.B.length - F) ≤ 9223372036854775807 := by omega
        have td : ¬ 9223372036854775807 < F + (a.B.length - F) := by omega
        have te : ¬ maxLen < F + (a.B.length - F) := by omega
        by_cases hcc : cap = F
        · have hBF : a.B.length = cap := by omega
          have hz : a.B.drop F = [] := by simp; omega
          have ET0 := Lib.hid (hE.out ⟨#[]⟩ (by rw [hz]))
          have hcv0 : (convert 70 9 (.slice (some ⟨gB, 0, none⟩) 0 0)).run Try.prog wr = .ok (.string ⟨#[]⟩) wr := by
            have := run_part (P := Try.prog) (cap := 0) (off := 0) (n := 0) hrow (by omega) 70 5 9 Try.underlying70 Try.underlying5 Try.underlying9
            simpa using this
          rw [hBF] at c0
          have hc4 : cap ≤ 4096 := by omega
          subst hcc
          clear hcv hBF hTs ET E0 hE hDl hz tb tc td te q1 q2 hFl hrow hroom
          have tb : cap + 0 ≤ maxLen := by unfold maxLen; omega
          have tc : cap ≤ 9223372036854775807 := by omega
          have td : ¬ 9223372036854775807 < cap := by omega
          have te : cap ≤ maxLen := by unfold maxLen; omega
          go_wp2_with fail
          go_ret
          exact ⟨_, rfl, ET0.out, HBW.out⟩
        · generalize (⟨(a.B.drop F).toArray⟩ : ByteArray) = T at *
          go_wp2_with fail
          go_ret
          exact ⟨_, rfl, ET.out, HBW.out⟩

end Go.Proofs.Ytienlhnbmobinaa
