/- law11: size, told exactly -/
import Derived.Test.YtienlhnbmobinaaRows
import Derived.Test.YtienlhnbmobinaaHeavy11
import Derived.Test.YtienlhnbmobinaaOpIn
import Derived.Test.YtienlhnbmobinaaOpPlain
import Derived.Test.YtienlhnbmobinaaTextsP
import Derived.Test.YtienlhnbmobinaaTextsIn
import Derived.Test.YtienlhnbmobinaaOpenFlat
import Derived.Test.YtienlhnbmobinaaPlains
import Derived.Test.YtienlhnbmobinaaBase
import Derived.Test.YtienlhnbmobinaaNodeWeigh
import Derived.WalkKit
import Derived.WalkLawsBesides
import Derived.WalkSpells
import Derived.LoopTactic
import Derived.WalkMore
import Derived.LoopN
import Derived.Laws.BitsAllLaws
import Derived.Laws.IdiomStrings
import Derived.BigQuiet
import Derived.Deep.QuietTactic
import Derived.Deep.DeepCutAuto
import Derived.Deep.RegionHeld3
import Derived.Deep.DrawnRows
import Derived.Lib.Hide
import Derived.Outline
import Derived.Deep.DeepMust
import Derived.Handy
namespace Go.Proofs.Ytienlhnbmobinaa
open Go.RowKit
set_option linter.unusedVariables false
set_option linter.unusedSimpArgs false

def sizeE : Nat → List (List UInt8) → Nat
  | n, [] => n
  | n, r :: rs => if n ≤ 4096 then sizeE (n + (1 + r.length)) rs else n
/-- What size answers. -/
def sizeA (o : Od) : Nat := sizeE (1 + o.text.length) o.rows
theorem sizeE_law : ∀ (rs : List (List UInt8)) (n B : Nat), (∀ r ∈ rs, r.length ≤ B) → n ≤ 4097 + B → n ≤ sizeE n rs ∧ sizeE n rs ≤ 4097 + B ∧ (n + heavyB rs ≤ 4096 → sizeE n rs = n + heavyB rs) ∧ (4096 < n + heavyB rs → 4096 < sizeE n rs) := by
  intro rs
  induction rs with
  | nil => intro n B _ h; exact ⟨Nat.le_refl _, h, fun _ => rfl, fun h => h⟩
  | cons r rs ih =>
    intro n B hr hn
    have e : heavyB (r :: rs) = 1 + r.length + heavyB rs := by simp [heavyB]
    rw [sizeE]
    by_cases h : n ≤ 4096
    · rw [if_pos h]
      have h1 := hr r (by simp)
      obtain ⟨i1, i2, i3, i4⟩ := ih (n + (1 + r.length)) B (fun x hx => hr x (by simp [hx])) (by omega)
      rw [e]
      exact ⟨by omega, i2, fun h => by rw [i3 (by omega)]; omega, fun h => i4 (by omega)⟩
    · rw [if_neg h]
      exact ⟨Nat.le_refl _, hn, fun h => by omega, fun _ => by omega⟩
theorem sizeA_law (o : Od) (hz : o.lens 140737488351232) : SizeAns o (sizeA o) := by
  obtain ⟨h1, h2, h3, h4⟩ := sizeE_law o.rows (1 + o.text.length) 140737488351232 hz.2 (by have := hz.1; omega)
  unfold SizeAns sizeA sizeN
  omega
set_option maxHeartbeats 2000000 in
set_option maxRecDepth 100000 in
theorem sizeA_any (o : Od) (sv : Value) (w : World) (ht : TextsAt w sv o.rows) (hz : o.lens 140737488351232) :
    Calls Try.prog 17 #[odV o sv] w fun e w' => e = .returned (.int .i64 (sizeA o : Nat)) ∧ Below w.heap.size w w' := by
  obtain ⟨kind, page, at_, off, text, rows, pk, lv, nx⟩ := o
  obtain ⟨A, cp, rfl, h2, h3, h4, h5⟩ := ht
  obtain ⟨hz0, hz⟩ := hz
  simp only at *
  obtain ⟨n, hn⟩ : ∃ n, n = rows.length := ⟨_, rfl⟩
  rw [← hn] at h2
  unfold odV
  simp only [← hn]
  unfold maxLen at h3
  obtain ⟨R, hR⟩ : ∃ R, R = sizeA ⟨kind, page, at_, off, text, rows, pk, lv, nx⟩ := ⟨_, rfl⟩
  rw [← hR]
  unfold sizeA at hR
  simp only at hR
  obtain ⟨t, hts⟩ : ∃ s : ByteArray, s = ⟨text.toArray⟩ := ⟨_, rfl⟩
  have htz : t.size = text.length := by rw [hts]; simp [ByteArray.size]
  rw [← hts]
  rw [← htz] at hR hz0
  have HR := Lib.hid hR
  clear hts htz hR
  have H5 := Lib.hid h5
  have HN := Lib.hid hn
  have HZ := Lib.hid hz
  clear h5 h4 hn hz
  go_enter Try.func17, Try.ntmps17
  go_wp2_with fail
  go_loopw [3, 4] (fun s3 s4 wr => ∃ i k : Nat, s4 = .int .i64 i ∧ i ≤ n ∧ wr = w.alloc (.cells #[.int .u8 kind, .int .u32 page, .int .i64 at_, .int .i64 off, .string t, .slice A n cp, .int .u8 pk, .int .u8 lv, .int .u32 nx] 28) ∧ s3 = .int .i64 k ∧ k ≤ 140737488355500 ∧ Hid (R = sizeE k (rows.drop i))) (fun _ v _ => n - (intOf v).toNat)
  case atStart => exact ⟨0, 1 + t.size, rfl, Nat.zero_le _, rfl, by go_num, by omega, HR⟩
  case round =>
    obtain ⟨i, k, rfl, hi, rfl, rfl, hle, HK⟩ := hrel
    by_cases hc : i < n
    · have hci : (i : Int) < (n : Int) := by omega
      have hix : i < rows.length := by rw [← HN.out]; exact hc
      have hdr := List.drop_eq_getElem_cons hix
      have hk := HK.out
      rw [hdr, sizeE] at hk
      clear hdr
      by_cases hm : k ≤ 4096
      · obtain ⟨b0, o0, rfl, hb0, hcell⟩ := H5.out (by omega)
        have c1 := (Below.cell ((Below.refl w.heap.size w).alloc (Nat.le_refl _) (.cells #[.int .u8 kind, .int .u32 page, .int .i64 at_, .int .i64 off, .string t, .slice (some ⟨b0, o0, none⟩) n cp, .int .u8 pk, .int .u8 lv, .int .u32 nx] 28)) (show (⟨b0, o0 + i, none⟩ : Addr).block < w.heap.size from hb0)).trans (hcell i hix)
        have q1 : (0 : Int) ≤ (i : Int) := by omega
        have hw2 := HZ.out _ (List.getElem_mem hix)
        rw [if_pos hm] at hk
        obtain ⟨s, hs⟩ : ∃ s : ByteArray, s = ⟨rows[i].toArray⟩ := ⟨_, rfl⟩
        have hsz : s.size = rows[i].length := by rw [hs]; simp [ByteArray.size]
        rw [← hs] at c1
        rw [← hsz] at hk hw2
        have HK2 := Lib.hid hk
        have hmi : (k : Int) ≤ 4096 := by omega
        clear hcell hs hsz hk HK
        go_wp2_with fail
        go_roundw
        case rel => exact ⟨i + 1, k + (1 + s.size), by go_num, by omega, by first | rfl | trivial, by go_num, by omega, HK2⟩
        case measure => simp [intOf] <;> omega
      · have hmi : ¬ (k : Int) ≤ 4096 := by omega
        rw [if_neg hm] at hk
        have HT := Lib.hid hk
        clear HK HR hk
        go_wp2_with fail
        go_ret
        exact ⟨by rw [HT.out]; rfl, (Below.refl _ _).alloc (Nat.le_refl _) _⟩
    · have hci : ¬ (i : Int) < (n : Int) := by omega
      have hin : rows.drop i = [] := by rw [List.drop_eq_nil_iff, ← HN.out]; omega
      have hk := HK.out
      rw [hin, sizeE] at hk
      have HT := Lib.hid hk
      clear hin HK HR hk
      go_wp2_with fail
      go_ret
      exact ⟨by rw [HT.out]; rfl, (Below.refl _ _).alloc (Nat.le_refl _) _⟩

end Go.Proofs.Ytienlhnbmobinaa
