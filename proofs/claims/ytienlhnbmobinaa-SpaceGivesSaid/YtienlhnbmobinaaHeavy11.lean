/- law11: size and Heavy -/
import Derived.Test.YtienlhnbmobinaaRows
import Derived.Test.YtienlhnbmobinaaOpIn
import Derived.Test.YtienlhnbmobinaaOpPlain
import Derived.Test.YtienlhnbmobinaaTextsP
import Derived.Test.YtienlhnbmobinaaTextsIn
import Derived.Test.YtienlhnbmobinaaOpenFlat
import Derived.Test.YtienlhnbmobinaaPlains
import Derived.Test.YtienlhnbmobinaaBase
import Derived.Test.YtienlhnbmobinaaNodeWeigh
import Derived.WalkKit
import Derived.WalkLawsBesides
import Derived.WalkSpells
import Derived.LoopTactic
import Derived.WalkMore
import Derived.LoopN
import Derived.Laws.BitsAllLaws
import Derived.Laws.IdiomStrings
import Derived.BigQuiet
import Derived.Deep.QuietTactic
import Derived.Deep.DeepCutAuto
import Derived.Deep.RegionHeld3
import Derived.Deep.DrawnRows
import Derived.Lib.Hide
import Derived.Outline
import Derived.Deep.DeepMust
import Derived.Handy
namespace Go.Proofs.Ytienlhnbmobinaa
open Go.RowKit
set_option linter.unusedVariables false
set_option linter.unusedSimpArgs false

theorem ov_cells {w : World} {b o : Nat} {e : Ov} (h : ∀ i v, e.cell[i]? = some v → w.cell? ⟨b, o + i, none⟩ = some v) :
    w.cell? ⟨b, o, none⟩ = some (.int .u8 e.o.kind) ∧ w.cell? ⟨b, o + 1, none⟩ = some (.int .u32 e.o.page) ∧ w.cell? ⟨b, o + 2, none⟩ = some (.int .i64 e.o.at_) ∧ w.cell? ⟨b, o + 3, none⟩ = some (.int .i64 e.o.off) ∧ w.cell? ⟨b, o + 4, none⟩ = some (.string ⟨e.o.text.toArray⟩) ∧ w.cell? ⟨b, o + 5, none⟩ = some e.sv ∧ w.cell? ⟨b, o + 6, none⟩ = some (.int .u8 e.o.pk) ∧ w.cell? ⟨b, o + 7, none⟩ = some (.int .u8 e.o.lv) ∧ w.cell? ⟨b, o + 8, none⟩ = some (.int .u32 e.o.nx) :=
  ⟨h 0 _ rfl, h 1 _ rfl, h 2 _ rfl, h 3 _ rfl, h 4 _ rfl, h 5 _ rfl, h 6 _ rfl, h 7 _ rfl, h 8 _ rfl⟩
/-- How much of an op there is. -/
def sizeN (o : Od) : Nat := 1 + o.text.length + heavyB o.rows
def sizesN (l : List Od) : Nat := (l.map sizeN).sum
theorem sizesN_take (l : List Od) (k : Nat) (h : k < l.length) : sizesN (l.take (k + 1)) = sizesN (l.take k) + sizeN l[k] := by
  rw [List.take_succ_eq_append_getElem h]
  unfold sizesN
  rw [List.map_append, List.sum_append]
  simp
theorem sizesN_take_le (l : List Od) (k : Nat) : sizesN (l.take k) ≤ sizesN l := by
  have h : sizesN l = sizesN (l.take k) + sizesN (l.drop k) := by
    conv => lhs; rw [← List.take_append_drop k l]
    unfold sizesN
    rw [List.map_append, List.sum_append]
  omega
/-- What size answers: the number itself, or one above what a statement looks at. -/
def SizeAns (o : Od) (n : Nat) : Prop := 1 ≤ n ∧ n ≤ 140737488355500 ∧ (sizeN o ≤ 4096 → n = sizeN o) ∧ (4096 < sizeN o → 4096 < n)
set_option maxHeartbeats 2000000 in
set_option maxRecDepth 100000 in
theorem size11_any (o : Od) (sv : Value) (w : World) (ht : TextsAt w sv o.rows) (hz : o.lens 140737488351232) :
    Calls Try.prog 17 #[odV o sv] w fun e w' => ∃ n : Nat, e = .returned (.int .i64 n) ∧ SizeAns o n ∧ Below w.heap.size w w' := by
  obtain ⟨kind, page, at_, off, text, rows, pk, lv, nx⟩ := o
  obtain ⟨A, cp, rfl, h2, h3, h4, h5⟩ := ht
  obtain ⟨hz0, hz⟩ := hz
  simp only at *
  obtain ⟨n, hn⟩ : ∃ n, n = rows.length := ⟨_, rfl⟩
  rw [← hn] at h2
  unfold odV
  simp only [← hn]
  unfold maxLen at h3
  have HS : Hid (∀ m : Nat, (1 ≤ m ∧ m ≤ 140737488355500 ∧ (m ≤ 4096 ∧ m = 1 + text.length + heavyB rows ∨ 4096 < m ∧ 4096 < 1 + text.length + heavyB rows)) → SizeAns ⟨kind, page, at_, off, text, rows, pk, lv, nx⟩ m) := by
    show ∀ m : Nat, _
    intro m h
    unfold SizeAns sizeN
    simp only
    omega
  obtain ⟨t, hts⟩ : ∃ s : ByteArray, s = ⟨text.toArray⟩ := ⟨_, rfl⟩
  have htz : t.size = text.length := by rw [hts]; simp [ByteArray.size]
  rw [← hts]
  rw [← htz] at HS hz0
  clear hts htz
  have H5 := Lib.hid h5
  have HN := Lib.hid hn
  have HZ := Lib.hid hz
  have HL : Hid (∀ i, heavyB (rows.take i) ≤ heavyB rows) := fun i => heavyB_take_le rows i
  clear h5 h4 hn hz
  go_enter Try.func17, Try.ntmps17
  go_wp2_with fail
  go_loopw [3, 4] (fun s3 s4 wr => ∃ i : Nat, s4 = .int .i64 i ∧ i ≤ n ∧ wr = w.alloc (.cells #[.int .u8 kind, .int .u32 page, .int .i64 at_, .int .i64 off, .string t, .slice A n cp, .int .u8 pk, .int .u8 lv, .int .u32 nx] 28) ∧ s3 = .int .i64 (1 + t.size + heavyB (rows.take i) : Nat) ∧ 1 + t.size + heavyB (rows.take i) ≤ 140737488355500) (fun _ v _ => n - (intOf v).toNat)
  case atStart => exact ⟨0, rfl, Nat.zero_le _, rfl, by simp [heavyB], by simp [heavyB]; omega⟩
  case round =>
    obtain ⟨i, rfl, hi, rfl, rfl, hle⟩ := hrel
    by_cases hc : i < n
    · have hci : (i : Int) < (n : Int) := by omega
      by_cases hm : 1 + t.size + heavyB (rows.take i) ≤ 4096
      · obtain ⟨W, hW⟩ : ∃ W, W = 1 + t.size + heavyB (rows.take i) := ⟨_, rfl⟩
        have hix : i < rows.length := by rw [← HN.out]; exact hc
        obtain ⟨b0, o0, rfl, hb0, hcell⟩ := H5.out (by omega)
        have c1 := (Below.cell ((Below.refl w.heap.size w).alloc (Nat.le_refl _) (.cells #[.int .u8 kind, .int .u32 page, .int .i64 at_, .int .i64 off, .string t, .slice (some ⟨b0, o0, none⟩) n cp, .int .u8 pk, .int .u8 lv, .int .u32 nx] 28)) (show (⟨b0, o0 + i, none⟩ : Addr).block < w.heap.size from hb0)).trans (hcell i hix)
        have q1 : (0 : Int) ≤ (i : Int) := by omega
        have hw1 := heavyB_take rows i hix
        have hw2 := HZ.out _ (List.getElem_mem hix)
        obtain ⟨s, hs⟩ : ∃ s : ByteArray, s = ⟨rows[i].toArray⟩ := ⟨_, rfl⟩
        have hsz : s.size = rows[i].length := by rw [hs]; simp [ByteArray.size]
        rw [← hs] at c1
        rw [← hsz] at hw1 hw2
        have HW : Hid (1 + t.size + heavyB (rows.take (i + 1)) = W + (1 + s.size)) := by show _ = _; omega
        have HQ := Lib.hid hW
        rw [← hW] at hm hle ⊢
        have hmi : (W : Int) ≤ 4096 := by omega
        clear hcell hs hsz hw1 hW
        go_wp2_with fail
        go_roundw
        case rel => exact ⟨i + 1, by go_num, by omega, by first | rfl | trivial, by rw [HW.out]; go_num, by rw [HW.out]; omega⟩
        case measure => simp [intOf] <;> omega
      · obtain ⟨W, hW⟩ : ∃ W, W = 1 + t.size + heavyB (rows.take i) := ⟨_, rfl⟩
        rw [← hW] at hm hle ⊢
        have hmi : ¬ (W : Int) ≤ 4096 := by omega
        have HT : Hid (SizeAns ⟨kind, page, at_, off, text, rows, pk, lv, nx⟩ W) := HS.out W ⟨by omega, by omega, Or.inr ⟨by omega, by have := HL.out i; omega⟩⟩
        clear hW HS
        go_wp2_with fail
        go_ret
        exact ⟨_, rfl, HT.out, (Below.refl _ _).alloc (Nat.le_refl _) _⟩
    · have hci : ¬ (i : Int) < (n : Int) := by omega
      have hin : rows.take i = rows := by rw [List.take_of_length_le]; rw [← HN.out]; omega
      rw [hin] at hle ⊢
      obtain ⟨W, hW⟩ : ∃ W, W = 1 + t.size + heavyB rows := ⟨_, rfl⟩
      rw [← hW] at hle ⊢
      have HT : Hid (SizeAns ⟨kind, page, at_, off, text, rows, pk, lv, nx⟩ W) := HS.out W ⟨by omega, by omega, by omega⟩
      clear hin hW HS
      go_wp2_with fail
      go_ret
      exact ⟨_, rfl, HT.out, (Below.refl _ _).alloc (Nat.le_refl _) _⟩
set_option maxHeartbeats 2000000 in
set_option maxRecDepth 100000 in
theorem heavy11_any (v : Value) (L : List Ov) (w : World) (h : OpsAt w v L) (hz : ∀ e ∈ L, e.o.lens 140737488351232) :
    Calls Try.prog 16 #[v] w fun e w' => e = .returned (.bool (decide (4096 < sizesN (L.map Ov.o)))) ∧ Below w.heap.size w w' := by
  obtain ⟨A, cp, rfl, h2, h3, h4, h5⟩ := h
  obtain ⟨n, hn⟩ : ∃ n, n = L.length := ⟨_, rfl⟩
  rw [← hn] at h2 ⊢
  unfold maxLen at h3
  have H4 := Lib.hid h4
  have H5 := Lib.hid h5
  have HN := Lib.hid hn
  have HZ := Lib.hid hz
  have HL : Hid (∀ i, sizesN ((L.map Ov.o).take i) ≤ sizesN (L.map Ov.o)) := fun i => sizesN_take_le _ i
  clear h5 h4 hn hz
  generalize hH : decide (4096 < sizesN (L.map Ov.o)) = b
  have HB : Hid (decide (4096 < sizesN (L.map Ov.o)) = b) := hH
  clear hH
  go_enter Try.func16, Try.ntmps16
  go_wp2_with fail
  go_loopw [3, 4] (fun s3 s4 wr => ∃ i k : Nat, s4 = .int .i64 i ∧ i ≤ n ∧ Hid (Below w.heap.size w wr) ∧ s3 = .int .i64 k ∧ k ≤ 140737488360500 ∧ Hid (k ≤ 4096 ∧ k = sizesN ((L.map Ov.o).take i) ∨ 4096 < k ∧ 4096 < sizesN ((L.map Ov.o).take i))) (fun _ v _ => n - (intOf v).toNat)
  case atStart => exact ⟨0, 0, rfl, Nat.zero_le _, Lib.hid (Below.refl _ _), rfl, by omega, Lib.hid (Or.inl ⟨by omega, by simp [sizesN]⟩)⟩
  case round =>
    obtain ⟨i, k, rfl, hi, HBL, rfl, hk, HK⟩ := hrel
    by_cases hc : i < n
    · have hci : (i : Int) < (n : Int) := by omega
      by_cases hm : k ≤ 4096
      · have hmi : (k : Int) ≤ 4096 := by omega
        have hil : i < L.length := by rw [← HN.out]; exact hc
        obtain ⟨b0, o0, rfl, hb0, hcell⟩ := H4.out (by rw [← HN.out]; omega)
        have q1 : (0 : Int) ≤ (i : Int) := by omega
        have hte := H5.out L[i] (List.getElem_mem hil)
        have hx := hcell i hil
        have hze := HZ.out L[i] (List.getElem_mem hil)
        have HT2 : Hid (sizesN ((L.map Ov.o).take (i + 1)) = sizesN ((L.map Ov.o).take i) + sizeN L[i].o) := by
          show _ = _
          rw [sizesN_take _ i (by simpa using hil)]
          simp
        generalize L[i] = e at *
        obtain ⟨x0, x1, x2, x3, x4, x5, x6, x7, x8⟩ := ov_cells (w := wr) (b := b0) (o := o0 + i * 9) (e := e) (fun j v hv => (HBL.out.cell (p := ⟨b0, o0 + i * 9 + j, none⟩) hb0).trans (hx j v hv))
        have SC := Lib.hid (size11_any e.o e.sv wr (hte.below HBL.out) hze)
        obtain ⟨⟨kind, page, at_, off, text, rows, pk, lv, nx⟩, eb, ec⟩ := e
        simp only [Ov.sv] at *
        clear hx hcell hte
        go_wp2_with fail
        refine SC.out.mono ?_
        rintro e1 w1 ⟨m, rfl, hm2, hB⟩
        obtain ⟨m1, m2, m3, m4⟩ := hm2
        have HM3 := Lib.hid m3
        have HM4 := Lib.hid m4
        have HB1 := Lib.hid (below_then HBL.out hB)
        clear hB SC m3 m4
        go_wp2_with fail
        go_roundw
        case rel =>
          refine ⟨i + 1, k + m, by go_num, by omega, HB1, by go_num, by omega, ?_⟩
          show _ ∨ _
          rw [HT2.out]
          have j1 := HK.out
          have j3 := HM3.out
          have j4 := HM4.out
          rcases Nat.lt_or_ge 4096 (sizeN ⟨kind, page, at_, off, text, rows, pk, lv, nx⟩) with h | h
          · have := j4 h
            omega
          · have := j3 h
            omega
        case measure => simp [intOf] <;> omega
      · have hmi : ¬ (k : Int) ≤ 4096 := by omega
        have HT : Hid (b = true) := by show _ = _; rw [← HB.out]; have := HL.out i; have := HK.out; exact decide_eq_true (by omega)
        go_wp2_with fail
        go_ret
        exact ⟨ret_bool (by rw [HT.out]; (try simp); (try omega)), HBL.out⟩
    · have hci : ¬ (i : Int) < (n : Int) := by omega
      have hin : (L.map Ov.o).take i = L.map Ov.o := by rw [List.take_of_length_le]; rw [List.length_map, ← HN.out]; omega
      have HT : Hid (b = decide ((4096 : Int) < (k : Nat))) := by
        show _ = _
        rw [← HB.out]
        have := HK.out
        rw [hin] at this
        apply decide_eq_decide.2
        omega
      clear hin
      go_wp2_with fail
      go_ret
      exact ⟨ret_bool (by rw [HT.out]), HBL.out⟩

end Go.Proofs.Ytienlhnbmobinaa
