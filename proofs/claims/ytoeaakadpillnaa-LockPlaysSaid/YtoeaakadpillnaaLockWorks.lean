/- The document's example of locks. -/
import Derived.Test.YtoeaakadpillnaaRows
import Derived.Test.YtoeaakadpillnaaLockRest
import Derived.Test.YtoeaakadpillnaaLockHeld
import Derived.Test.YtoeaakadpillnaaLockWalks
import Derived.Test.YtoeaakadpillnaaKept
import Derived.WalkKit
import Derived.WalkLawsBesides
import Derived.WalkSpells
import Derived.LoopTactic
import Derived.WalkMore
import Derived.LoopN
import Derived.Laws.BitsAllLaws
import Derived.Laws.IdiomStrings
import Derived.BigQuiet
import Derived.Deep.QuietTactic
import Derived.Deep.DeepCutAuto
import Derived.Deep.RegionHeld3
import Derived.Deep.DrawnRows
import Derived.Lib.Hide
import Derived.Outline
import Derived.Deep.DeepMust
import Derived.Handy
namespace Go.Proofs.Ytoeaakadpillnaa
open Go.RowKit
set_option linter.unusedVariables false
set_option linter.unusedSimpArgs false

theorem wk1 : takeL [] 1 [97] = ([([97], 1)], true, 0) := by decide
theorem wk2 : takeL [([97], 1)] 1 [97] = ([([97], 1)], false, 0) := by decide
theorem wk3 : takeL [([97], 1)] 2 [97] = ([([97], 1)], false, 250) := by decide
theorem wk4 : takeL [([97], 1)] 0 [97] = ([([97], 1)], false, 2) := by decide
theorem wk5 : takeL [([97], 1)] 1 [] = ([([97], 1)], false, 2) := by decide
theorem wk6 : who [([97], 1)] [97] = some 1 := by decide
theorem wk7 : held [([97], 1)] 1 = [[97]] := by decide
theorem wk8 : dropL [([97], 1)] 1 = [] := by decide

set_option maxRecDepth 100000 in
set_option maxHeartbeats 2000000 in
theorem works_any (w : World) :
    Calls Try.prog 15 #[] w fun e w' => e = .returned (.bool true) ∧ Below w.heap.size w w' := by
  have T1 := Lib.hid fun (W : World) g m (h : LkAt W g m []) => lkTake W 1 ⟨#[97]⟩ (by decide) (by decide) h
  have T2 := Lib.hid fun (W : World) g m (h : LkAt W g m [([97], 1)]) => lkTake W 1 ⟨#[97]⟩ (by decide) (by decide) h
  have T3 := Lib.hid fun (W : World) g m (h : LkAt W g m [([97], 1)]) => lkTake W 2 ⟨#[97]⟩ (by decide) (by decide) h
  have T4 := Lib.hid fun (W : World) g m (h : LkAt W g m [([97], 1)]) => lkTake W 0 ⟨#[97]⟩ (by decide) (by decide) h
  have T5 := Lib.hid fun (W : World) g m (h : LkAt W g m [([97], 1)]) => lkTake W 1 ⟨#[]⟩ (by decide) (by decide) h
  have T6 := Lib.hid fun (W : World) g m (h : LkAt W g m [([97], 1)]) => lkWho W ⟨#[97]⟩ (by decide) h
  have T7 := Lib.hid fun (W : World) g m (h : LkAt W g m [([97], 1)]) => lkDrop W 1 h
  simp only [show (⟨#[97]⟩ : ByteArray).data.toList = [97] from rfl, show (⟨#[]⟩ : ByteArray).data.toList = [] from rfl, wk1, wk2, wk3, wk4, wk5, wk6, wk7, wk8, Option.getD_some, List.length_cons, List.length_nil, Nat.zero_add] at T1 T2 T3 T4 T5 T6 T7
  go_enter Try.func15, Try.ntmps15
  go_wp2_with fail
  refine (lkNew _).mono ?_
  rintro e w1 ⟨g, m, rfl, hL, hg, hm, hB⟩
  have HL1 := Lib.hid hL
  have HB1 := Lib.hid hB
  clear hL hB
  go_wp2_with fail
  refine (T1.out _ _ _ HL1.out).mono ?_
  rintro e w2 ⟨rfl, hL, hG⟩
  have HL2 := Lib.hid hL
  have HB2 := Lib.hid (show Below w.heap.size w w2 from HB1.out.grown hG HB1.out.size (fun j hj => by cases hj; exact hm))
  clear hL hG
  go_wp2_with fail
  refine (T2.out _ _ _ HL2.out).mono ?_
  rintro e w3 ⟨rfl, hL, hG⟩
  have HL3 := Lib.hid hL
  have HB3 := Lib.hid (show Below w.heap.size w w3 from HB2.out.grown hG HB2.out.size (fun j hj => by cases hj; exact hm))
  clear hL hG
  go_wp2_with fail
  refine (T3.out _ _ _ HL3.out).mono ?_
  rintro e w4 ⟨rfl, hL, hG⟩
  have HL4 := Lib.hid hL
  have HB4 := Lib.hid (show Below w.heap.size w w4 from HB3.out.grown hG HB3.out.size (fun j hj => by cases hj; exact hm))
  clear hL hG
  go_wp2_with fail
  refine (T4.out _ _ _ HL4.out).mono ?_
  rintro e w5 ⟨rfl, hL, hG⟩
  have HL5 := Lib.hid hL
  have HB5 := Lib.hid (show Below w.heap.size w w5 from HB4.out.grown hG HB4.out.size (fun j hj => by cases hj; exact hm))
  clear hL hG
  go_wp2_with fail
  refine (T5.out _ _ _ HL5.out).mono ?_
  rintro e w6 ⟨rfl, hL, hG⟩
  have HL6 := Lib.hid hL
  have HB6 := Lib.hid (show Below w.heap.size w w6 from HB5.out.grown hG HB5.out.size (fun j hj => by cases hj; exact hm))
  clear hL hG
  go_wp2_with fail
  refine (T6.out _ _ _ HL6.out).mono ?_
  rintro e w6 ⟨rfl, rfl⟩
  go_wp2_with fail
  refine (T7.out _ _ _ HL6.out).mono ?_
  rintro e w7 ⟨rfl, hL, hK⟩
  have HL7 := Lib.hid hL
  have HB7 := Lib.hid (show Below w.heap.size w w7 from hK.below HB6.out (fun k hk e => by omega))
  clear hL hK
  go_wp2_with fail
  refine (lkLen _ HL7.out).mono ?_
  rintro e w7 ⟨rfl, rfl⟩
  go_wp2_with fail
  go_ret
  exact ⟨rfl, HB7.out⟩

end Go.Proofs.Ytoeaakadpillnaa
