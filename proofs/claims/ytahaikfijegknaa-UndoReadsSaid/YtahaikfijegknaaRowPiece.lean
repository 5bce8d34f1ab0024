/- The contract of the closure that row.Decode reads a piece by. -/
import Derived.Test.YtahaikfijegknaaRows
import Derived.Test.YtahaikfijegknaaRowRead
import Derived.WalkKit
import Derived.WalkLawsBesides
import Derived.WalkSpells
import Derived.LoopTactic
import Derived.WalkMore
import Derived.LoopN
import Derived.Laws.BitsAllLaws
import Derived.Laws.IdiomStrings
import Derived.BigQuiet
import Derived.Deep.QuietTactic
import Derived.Deep.DeepCutAuto
import Derived.Deep.RegionHeld3
import Derived.Deep.DrawnRows
import Derived.Lib.Hide
import Derived.Outline
import Derived.Deep.DeepMust
import Derived.Handy
namespace Go.Proofs.Ytahaikfijegknaa
open Go.RowKit
set_option linter.unusedVariables false
set_option linter.unusedSimpArgs false

theorem grown_trans {a b c : World} {row : Option Nat} (h : a.grownBy b row) (k : b.grownBy c row) : a.grownBy c row :=
  ⟨k.os.trans h.os, k.tape.trans h.tape, k.output.trans h.output, Nat.le_trans h.size k.size, fun i hi hne => (k.block i (Nat.lt_of_lt_of_le hi h.size) hne).trans (h.block i hi hne)⟩
theorem grown_cell {w w' : World} {g b o : Nat} {v : Value} (h : w.grownBy w' (some g)) (hc : w.cell? ⟨b, o, none⟩ = some v) (hb : b < w.heap.size) (hne : b ≠ g) : w'.cell? ⟨b, o, none⟩ = some v := by
  rw [World.cell?_of_block (w := w) (h.block b hb (by simpa using hne))]; exact hc

theorem grown_undrew {w w' : World} {r : Option Nat} (h : w.drew.grownBy w' r) : w.grownBy w' r := ⟨h.os, h.tape, h.output, h.size, h.block⟩

theorem rdNum_lt (s : List UInt8) (i k : Nat) : rdNum s i k < 256 ^ k := by
  unfold rdNum
  split
  · exact un_lt k _ (by simp; omega)
  · exact Nat.pow_pos (by omega)

set_option maxHeartbeats 2000000 in
set_option maxRecDepth 100000 in
theorem piece_any (s : ByteArray) (q g i : Nat) (is : Bool) (w : World) (hs : s.size ≤ maxLen) (hi : i ≤ 999999) (hq : w.cell? ⟨q, 0, none⟩ = some (.pointer (some ⟨g, 0, none⟩))) (hqs : q < w.heap.size) (hne : q ≠ g) (hr : RdIn w g s i is) :
    Calls Try.prog 51 #[.pointer (some ⟨q, 0, none⟩)] w fun e w' => e = .returned (.string ⟨(rdText s.data.toList (i + 1) (rdNum s.data.toList i 1)).toArray⟩) ∧
      RdIn w' g s (i + 1 + rdNum s.data.toList i 1) (is && decide (i + 1 ≤ s.size) && decide (i + 1 + rdNum s.data.toList i 1 ≤ s.size)) ∧ w.grownBy w' (some g) := by
  have hlt := rdNum_lt s.data.toList i 1
  have C1 := Lib.hid fun W hW => num_any s g i 1 is W hs (by omega) (by omega) (by omega) hW
  have C2 := Lib.hid fun W is' hW => text_any s g (i + 1) (rdNum s.data.toList i 1) is' W hs (by omega) (by omega) hW
  generalize rdNum s.data.toList i 1 = n at *
  simp only [Nat.reducePow] at hlt
  have Hr := Lib.hid hr
  clear hr
  have wn : IntKind.i64.wrap (n : Int) = n := IntWalk.i64_in _ ⟨by omega, by omega⟩
  go_enter Try.func51, Try.ntmps51
  go_wp2_with fail
  go_region_held3 (fun w' => w'.cell? ⟨q, 0, none⟩ = some (.pointer (some ⟨g, 0, none⟩)) ∧ q < w'.heap.size)
    (first | go_keep | (go_split_ands; exact ⟨grown_cell hgx (by assumption) (by assumption) hne, Nat.lt_of_lt_of_le (by assumption) hgx.size⟩))
    (first
      | (go_at_call 53; refine (C1.out _ (by exact Hr.out)).mono ?_; rintro e w1 ⟨rfl, hr1, hg1⟩; have hgx := hg1)
      | (go_at_call 52; refine (C2.out _ _ (by exact hr1)).mono ?_; rintro e w2 ⟨rfl, hr2, hg2⟩; have hgx := hg2))
  go_wp2
  go_ret
  exact ⟨rfl, hr2, grown_trans (grown_undrew hg1) hg2⟩

end Go.Proofs.Ytahaikfijegknaa
