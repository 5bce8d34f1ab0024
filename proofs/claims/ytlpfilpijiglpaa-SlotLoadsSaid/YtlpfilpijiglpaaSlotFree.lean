/- An area's free bytes -/
import Derived.Test.YtlpfilpijiglpaaRows
import Derived.Test.YtlpfilpijiglpaaSlotNew
import Derived.WalkKit
import Derived.WalkLawsBesides
import Derived.WalkSpells
import Derived.LoopTactic
import Derived.WalkMore
import Derived.LoopN
import Derived.Laws.BitsAllLaws
import Derived.Laws.IdiomStrings
import Derived.BigQuiet
import Derived.Deep.QuietTactic
import Derived.Deep.DeepCutAuto
import Derived.Deep.RegionHeld3
import Derived.Deep.DrawnRows
import Derived.Lib.Hide
import Derived.Outline
import Derived.Deep.DeepMust
import Derived.Handy
namespace Go.Proofs.Ytlpfilpijiglpaa
open Go.RowKit
set_option linter.unusedVariables false
set_option linter.unusedSimpArgs false

set_option maxHeartbeats 1000000 in
set_option maxRecDepth 100000 in
theorem slotFree_any (gA gB cap : Nat) (l : List UInt8) (w : World) (hk : 4 + 4 * u2 l 0 ≤ l.length) (hl : l.length ≤ 100000) (h : AreaIn w gA gB cap l) :
    Calls Try.prog 20 #[.pointer (some ⟨gA, 0, none⟩)] w fun e w' => e = .returned (.int .i64 (freeL l)) ∧ Below w.heap.size w w' := by
  have N := Lib.hid fun W hW => slotNone_any gA gB cap l W (by omega) hW
  have L := Lib.hid fun W hW => slotLen_any gA gB cap l W (by omega) hl hW
  have E := Lib.hid fun k (hk : k < u2 l 0) W hW => slotEntry_any gA gB cap k l W (by omega) hl hW
  have H := Lib.hid h
  have hF : Hid (freeL l = (l.length : Int) - 4 - 4 * (u2 l 0 : Int) - (sizes l (u2 l 0) : Int)) := rfl
  have b0 := u2_lt l 0
  generalize hu : u2 l 0 = n at *
  have e1 : IntKind.i64.wrap ((l.length : Int) - 4) = (l.length : Int) - 4 := IntWalk.i64_in _ ⟨by omega, by omega⟩
  have e2 : IntKind.i64.wrap (4 * (n : Int)) = 4 * (n : Int) := IntWalk.i64_in _ ⟨by omega, by omega⟩
  have e3 : IntKind.i64.wrap ((l.length : Int) - 4 - 4 * (n : Int)) = (l.length : Int) - 4 - 4 * (n : Int) := IntWalk.i64_in _ ⟨by omega, by omega⟩
  have Hu := Lib.hid hu
  clear h hu
  go_enter Try.func20, Try.ntmps20
  go_wp2_with fail
  refine (N.out _ H.out).mono ?_
  rintro e w1 ⟨rfl, h1⟩
  have HA := Lib.hid (H.out.below h1)
  have c0 := ext_cell (w := w1) (b := gA) (o := 0) (by rw [blk_cell HA.out.own]; rfl) (blk_lt HA.out.own)
  go_wp2_with fail
  refine wp_region_ext w1.heap.size (by kernel_rfl) (by kernel_rfl) ?_
  repeat (go_big_quiet_step ((go_at_call 18; exact ext_call _ (Nat.le_refl _) (L.out _ (HA.out.below (Ext.below _))))))
  refine wpQuiet_nil ?_
  rintro _ ⟨X, rfl⟩
  have hx := h1.trans (X.below.mono h1.size)
  generalize X.val = wz at hx
  have HZ := Lib.hid (H.out.below hx)
  have HX := Lib.hid hx
  clear h1 c0 HA hx
  go_wp2_with fail
  refine (L.out _ HZ.out).mono ?_
  rintro e w2 ⟨rfl, h2⟩
  have HY := Lib.hid (HZ.out.below h2)
  have HB := Lib.hid (HX.out.trans (h2.mono HX.out.size))
  clear h2
  go_wp2_with fail
  go_loopw [3, 21] (fun s3 s21 wr => ∃ j : Nat, j ≤ n ∧ s21 = .int .i64 j ∧ s3 = .int .i64 ((l.length : Int) - 4 - 4 * (n : Int) - (sizes l j : Int)) ∧ AreaIn wr gA gB cap l ∧ Below w.heap.size w wr) (fun _ i _ => n - (intOf i).toNat)
  case atStart => exact ⟨0, Nat.zero_le _, rfl, by simp [sizes], HY.out, HB.out⟩
  case round =>
    obtain ⟨j, hj, rfl, rfl, ha, hb⟩ := hrel
    have hsz := sizes_le l j
    have HAR := Lib.hid ha
    have HBR := Lib.hid hb
    by_cases hc : j < n
    · have hs1 : Hid (sizes l (j + 1) = sizes l j + u2 l (6 + 4 * j)) := rfl
      have b6 := u2_lt l (6 + 4 * j)
      have EE := Lib.hid (E.out j hc)
      generalize u2 l (6 + 4 * j) = m at *
      generalize u2 l (4 + 4 * j) = f at *
      generalize hq : (l.length : Int) - 4 - 4 * (n : Int) - (sizes l j : Int) = q at *
      have wq : IntKind.i64.wrap (q - (m : Int)) = q - (m : Int) := IntWalk.i64_in _ ⟨by omega, by omega⟩
      have hq2 : Hid (q - (m : Int) = (l.length : Int) - 4 - 4 * (n : Int) - (sizes l (j + 1) : Int)) := by show _ = _; rw [hs1.out]; omega
      clear ha hb hq hsz
      go_wp2_with fail
      refine (EE.out _ HAR.out).mono ?_
      rintro e w3 ⟨rfl, h3⟩
      go_wp2_with fail
      go_roundw
      case rel => exact ⟨j + 1, by omega, by go_num, by rw [hq2.out], HAR.out.below h3, HBR.out.trans (h3.mono HBR.out.size)⟩
      case measure => simp [intOf]; omega
    · obtain rfl : j = n := by omega
      clear ha hb hsz
      go_wp2_with fail
      go_ret
      exact ⟨ret_int (by rw [hF.out]), HBR.out⟩

end Go.Proofs.Ytlpfilpijiglpaa
