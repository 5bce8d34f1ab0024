/- chapter 23: the document's example. -/
import Derived.Test.YtoeaakadpillnaaRows
import Derived.Test.YtoeaakadpillnaaTxnAll
import Derived.Test.YtoeaakadpillnaaTxnGet
import Derived.Test.YtoeaakadpillnaaTxnSet
import Derived.Test.YtoeaakadpillnaaTxnRaiseWalk
import Derived.WalkKit
import Derived.WalkLawsBesides
import Derived.WalkSpells
import Derived.LoopTactic
import Derived.WalkMore
import Derived.LoopN
import Derived.Laws.BitsAllLaws
import Derived.Laws.IdiomStrings
import Derived.BigQuiet
import Derived.Deep.QuietTactic
import Derived.Deep.DeepCutAuto
import Derived.Deep.RegionHeld3
import Derived.Deep.DrawnRows
import Derived.Lib.Hide
import Derived.Outline
import Derived.Deep.DeepMust
import Derived.Handy
namespace Go.Proofs.Ytoeaakadpillnaa
open Go.RowKit
set_option linter.unusedVariables false
set_option linter.unusedSimpArgs false

open Go.Maps
theorem below_mine {w w1 w2 : World} {g m c : Nat} (hb : Below w.heap.size w w1) (h : OthersKept w1 w2 (mine g m c)) (hg : w.heap.size ≤ g) (hm : w.heap.size ≤ m) (hc : w.heap.size ≤ c) : Below w.heap.size w w2 :=
  OthersKept.below hb h (fun k hk hp => by rcases hp with e | e | e <;> omega)
theorem own_form6 {w : World} {base n size : Nat} {e : TypeId} {v : Value} {xs : List Value} (h : w.ownsRow base e size v n xs) : ∃ b cp, v = .slice b n cp ∧ n ≤ cp ∧ cp ≤ maxLen ∧ (0 < n → ∃ g, b = some ⟨g, 0, none⟩) := by
  rcases h.2 with ⟨rfl, rfl⟩ | ⟨g, cap, cur, rfl, hb, hg, h1, h2, _⟩
  · exact ⟨none, 0, rfl, Nat.le_refl _, Nat.zero_le _, fun h => absurd h (Nat.lt_irrefl 0)⟩
  · exact ⟨_, cap, rfl, h1, h2, fun _ => ⟨g, rfl⟩⟩
theorem own_cell6 {w : World} {base n size g cp : Nat} {e : TypeId} {xs : List Value} (h : w.ownsRow base e size (.slice (some ⟨g, 0, none⟩) n cp) n xs) (j : Nat) (u : Value) (hu : xs[j]? = some u) : w.cell? ⟨g, j, none⟩ = some u := by
  have := h.cells (g := g) rfl j u hu
  rwa [show (⟨g, 0, none⟩ : Addr).add j = ⟨g, j, none⟩ by unfold Addr.add; split <;> simp_all] at this
set_option maxHeartbeats 4000000 in
set_option maxRecDepth 100000 in
/-- The document's example. -/
theorem txworks_any (w : World) : Calls Try.prog 36 #[] w fun e w' => e = .returned (.bool true) ∧ Below w.heap.size w w' := by
  have N : Hid (Calls Try.prog 37 #[.int .u64 5, .int .u64 1] w fun e w' => ∃ g m c, e = .returned (.tuple #[.pointer (some ⟨g, 0, none⟩), .int .i64 0]) ∧ TtAt w' g m c 5 1 [] ∧ w.heap.size ≤ g ∧ w.heap.size ≤ m ∧ w.heap.size ≤ c ∧ Below w.heap.size w w') := tx_new w 5 1 (by omega) (by omega) (by omega) (by omega)
  go_enter Try.func36, Try.ntmps36
  go_wp2_with fail
  refine N.out.mono ?_
  rintro e w1 ⟨g, m, c, rfl, h1, hg, hm, hc, hb1⟩
  have HB1 := Lib.hid hb1
  have B1 : Hid (Calls Try.prog 43 #[.pointer (some ⟨g, 0, none⟩)] w1 fun e w' => e = .returned (.tuple #[.int .u64 5, .int .i64 0]) ∧ TtAt w' g m c 6 1 [tx0 5] ∧ OthersKept w1 w' (mine g m c)) := tx_begin w1 h1 (by decide) (by omega)
  clear hb1 h1
  go_wp2_with fail
  refine B1.out.mono ?_
  rintro e w2 ⟨rfl, h2, hk2⟩
  have HB2 := Lib.hid (below_mine HB1.out hk2 hg hm hc)
  have B2 : Hid (Calls Try.prog 43 #[.pointer (some ⟨g, 0, none⟩)] w2 fun e w' => e = .returned (.tuple #[.int .u64 6, .int .i64 0]) ∧ TtAt w' g m c 7 1 [tx0 5, tx0 6] ∧ OthersKept w2 w' (mine g m c)) := tx_begin w2 h2 (by decide) (by omega)
  clear hk2 h2
  go_wp2_with fail
  refine B2.out.mono ?_
  rintro e w3 ⟨rfl, h3, hk3⟩
  have HB3 := Lib.hid (below_mine HB2.out hk3 hg hm hc)
  have C3 : Hid (Calls Try.prog 40 #[.pointer (some ⟨g, 0, none⟩), .int .u64 6] w3 fun e w' => e = .returned (.tuple #[.int .u64 1, .int .i64 0]) ∧ TtAt w' g m c 7 2 [tx0 5] ∧ OthersKept w3 w' (mine g m c)) := tx_commit w3 h3 6 (y := tx0 6) rfl (by omega)
  clear hk3 h3
  go_wp2_with fail
  refine C3.out.mono ?_
  rintro e w4 ⟨rfl, h4, hk4⟩
  have HB4 := Lib.hid (below_mine HB3.out hk4 hg hm hc)
  have B4 : Hid (Calls Try.prog 43 #[.pointer (some ⟨g, 0, none⟩)] w4 fun e w' => e = .returned (.tuple #[.int .u64 7, .int .i64 0]) ∧ TtAt w' g m c 8 2 [tx0 5, tx0 7] ∧ OthersKept w4 w' (mine g m c)) := tx_begin w4 h4 (by decide) (by omega)
  clear hk4 h4
  go_wp2_with fail
  refine B4.out.mono ?_
  rintro e w5 ⟨rfl, h5, hk5⟩
  have HB5 := Lib.hid (below_mine HB4.out hk5 hg hm hc)
  have A5 := Lib.hid (tx_all w5 h5)
  have H5 := Lib.hid h5
  clear hk5 h5
  go_wp2_with fail
  refine A5.out.mono ?_
  rintro e w6 ⟨v, rfl, ho, hb⟩
  obtain ⟨b, cp, rfl, hcp, hcm, hbb⟩ := own_form6 ho
  obtain ⟨gv, rfl⟩ := hbb (by decide)
  have t0 : w6.cell? ⟨gv, 0, none⟩ = some (.int .u64 5) := own_cell6 ho 0 _ rfl
  have t6 : w6.cell? ⟨gv, 6, none⟩ = some (.int .u64 7) := own_cell6 ho 6 _ rfl
  have HB6 := Lib.hid (below_then HB5.out hb)
  have C6 : Hid (Calls Try.prog 40 #[.pointer (some ⟨g, 0, none⟩), .int .u64 6] w6 fun e w' => e = .returned (.tuple #[.int .u64 0, .int .i64 230]) ∧ Below w6.heap.size w6 w') := tx_commit_no w6 (H5.out.below hb) 6 (by omega) (.inl rfl)
  have T0 := Lib.hid t0
  have T6 := Lib.hid t6
  clear ho hb hbb t0 t6
  go_wp2_with fail
  refine C6.out.mono ?_
  rintro e w7 ⟨rfl, hb⟩
  have HB7 := Lib.hid (below_then HB6.out hb)
  have t0 := keep_cell hb T0.out
  have t6 := keep_cell hb T6.out
  clear hb
  go_wp2_with fail
  go_ret
  exact ⟨rfl, HB7.out⟩

end Go.Proofs.Ytoeaakadpillnaa
