/- chapter 08: is a page a node -/
import Derived.Test.YtjcfnfpilladfaaRows
import Derived.Test.YtjcfnfpilladfaaNodeKeysA
import Derived.Test.YtjcfnfpilladfaaTextsP
import Derived.Test.YtjcfnfpilladfaaNodeKeysB
import Derived.WalkKit
import Derived.WalkLawsBesides
import Derived.WalkSpells
import Derived.LoopTactic
import Derived.WalkMore
import Derived.LoopN
import Derived.Laws.BitsAllLaws
import Derived.Laws.IdiomStrings
import Derived.BigQuiet
import Derived.Deep.QuietTactic
import Derived.Deep.DeepCutAuto
import Derived.Deep.RegionHeld3
import Derived.Deep.DrawnRows
import Derived.Lib.Hide
import Derived.Outline
import Derived.Deep.DeepMust
import Derived.Handy
namespace Go.Proofs.Ytjcfnfpilladfaa
open Go.RowKit
set_option linter.unusedVariables false
set_option linter.unusedSimpArgs false

/-- Check's answer. -/
def chkN (b : Bool) : Int := if b then 0 else 7
set_option maxHeartbeats 2000000 in
set_option maxRecDepth 100000 in
theorem nodeCheck_any (p : Pg) (sv : Value) (w : World) (hp : p.wf) (ht : TextsAt w sv p.rows) (hb : weightB p.rows ≤ 1000000) :
    Calls Try.prog 45 #[pgV p sv] w fun e w' => e = .returned (.int .i64 (chkN (checkB p))) ∧ Below w.heap.size w w' := by
  have CK := Lib.hid fun W (h : TextsAt W sv p.rows) => nodeKeys_any p sv W hp h hb
  have CM := Lib.hid fun W (h : TextsAt W sv p.rows) => pageMay_any p sv W hp h hb
  have HT := Lib.hid ht
  unfold checkB
  generalize keysB p = K at *
  generalize p.may = M at *
  unfold pgV at *
  obtain ⟨kind, level, id, lsn, next, rows⟩ := p
  clear ht hp hb
  simp only at *
  have X0 := Lib.hid (PgBox.new w kind level id lsn next sv)
  have B0 := Lib.hid (alloc_below w (.cells #[.int .u8 kind, .int .u8 level, .int .u32 id, .int .u64 lsn, .int .u32 next, sv] 45))
  go_enter Try.func45, Try.ntmps45
  go_wp2_with fail
  generalize w.alloc (.cells #[.int .u8 kind, .int .u8 level, .int .u32 id, .int .u64 lsn, .int .u32 next, sv] 45) = w0 at *
  have T0 := Lib.hid (HT.out.below B0.out)
  refine (CK.out _ T0.out).mono ?_
  rintro e w1 ⟨v, rfl, _, hb1⟩
  have B1 := Lib.hid (below_then B0.out hb1)
  have T1 := Lib.hid (T0.out.below hb1)
  obtain ⟨x0, x1, x2, x3, x4, x5, x6⟩ := (X0.out.below hb1).cells
  clear hb1
  cases K with
  | none =>
    go_wp2_with fail
    go_ret
    exact ⟨rfl, B1.out⟩
  | some ks =>
    cases M with
    | false =>
      go_wp2_with fail
      refine (CM.out _ T1.out).mono ?_
      rintro e w2 ⟨rfl, hb2⟩
      have B2 := Lib.hid (below_then B1.out hb2)
      clear hb2
      go_wp2_with fail
      go_ret
      exact ⟨rfl, B2.out⟩
    | true =>
      go_wp2_with fail
      refine (CM.out _ T1.out).mono ?_
      rintro e w2 ⟨rfl, hb2⟩
      have B2 := Lib.hid (below_then B1.out hb2)
      clear hb2
      go_wp2_with fail
      go_ret
      exact ⟨rfl, B2.out⟩
set_option maxHeartbeats 2000000 in
set_option maxRecDepth 100000 in
theorem refCheck_any (p : Pg) (sv : Value) (w : World) (hp : p.wf) (ht : TextsAt w sv p.rows) (hb : weightB p.rows ≤ 1000000) :
    Calls Try.prog 46 #[pgV p sv] w fun e w' => e = .returned (.int .i64 (chkN (checkB p))) ∧ Below w.heap.size w w' := by
  have CK := Lib.hid fun W (h : TextsAt W sv p.rows) => refKeys_any p sv W hp h hb
  have CM := Lib.hid fun W (h : TextsAt W sv p.rows) => refMay06_any p sv W hp h hb
  have HT := Lib.hid ht
  unfold checkB
  generalize keysB p = K at *
  generalize p.may = M at *
  unfold pgV at *
  obtain ⟨kind, level, id, lsn, next, rows⟩ := p
  clear ht hp hb
  simp only at *
  have X0 := Lib.hid (PgBox.new w kind level id lsn next sv)
  have B0 := Lib.hid (alloc_below w (.cells #[.int .u8 kind, .int .u8 level, .int .u32 id, .int .u64 lsn, .int .u32 next, sv] 45))
  go_enter Try.func46, Try.ntmps46
  go_wp2_with fail
  generalize w.alloc (.cells #[.int .u8 kind, .int .u8 level, .int .u32 id, .int .u64 lsn, .int .u32 next, sv] 45) = w0 at *
  have T0 := Lib.hid (HT.out.below B0.out)
  refine (CK.out _ T0.out).mono ?_
  rintro e w1 ⟨v, rfl, _, hb1⟩
  have B1 := Lib.hid (below_then B0.out hb1)
  have T1 := Lib.hid (T0.out.below hb1)
  obtain ⟨x0, x1, x2, x3, x4, x5, x6⟩ := (X0.out.below hb1).cells
  clear hb1
  cases K with
  | none =>
    go_wp2_with fail
    go_ret
    exact ⟨rfl, B1.out⟩
  | some ks =>
    cases M with
    | false =>
      go_wp2_with fail
      refine (CM.out _ T1.out).mono ?_
      rintro e w2 ⟨rfl, hb2⟩
      have B2 := Lib.hid (below_then B1.out hb2)
      clear hb2
      go_wp2_with fail
      go_ret
      exact ⟨rfl, B2.out⟩
    | true =>
      go_wp2_with fail
      refine (CM.out _ T1.out).mono ?_
      rintro e w2 ⟨rfl, hb2⟩
      have B2 := Lib.hid (below_then B1.out hb2)
      clear hb2
      go_wp2_with fail
      go_ret
      exact ⟨rfl, B2.out⟩

end Go.Proofs.Ytjcfnfpilladfaa
