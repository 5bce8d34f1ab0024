/- chapter 23: Get. -/
import Derived.Test.YtoeaakadpillnaaRows
import Derived.Test.YtoeaakadpillnaaTxnWalks
import Derived.WalkKit
import Derived.WalkLawsBesides
import Derived.WalkSpells
import Derived.LoopTactic
import Derived.WalkMore
import Derived.LoopN
import Derived.Laws.BitsAllLaws
import Derived.Laws.IdiomStrings
import Derived.BigQuiet
import Derived.Deep.QuietTactic
import Derived.Deep.DeepCutAuto
import Derived.Deep.RegionHeld3
import Derived.Deep.DrawnRows
import Derived.Lib.Hide
import Derived.Outline
import Derived.Deep.DeepMust
import Derived.Handy
namespace Go.Proofs.Ytoeaakadpillnaa
open Go.RowKit
set_option linter.unusedVariables false
set_option linter.unusedSimpArgs false

open Go.Maps Go.Conc
set_option maxHeartbeats 4000000 in
set_option maxRecDepth 100000 in
theorem tx_get (w : World) {g m c tx number : Nat} {T : TT} (h : TtAt w g m c tx number T) (k : Nat) (hk : k < 18446744073709551616) :
    Calls Try.prog 39 #[.pointer (some ⟨g, 0, none⟩), .int .u64 (k : Nat)] w fun e w' => e = .returned (.tuple #[((getT T k).getD (tx0 0)).val, .bool (getT T k).isSome]) ∧ Below w.heap.size w w' := by
  obtain ⟨x, hx⟩ : ∃ x, x = (getT T k).getD (tx0 0) := ⟨_, rfl⟩
  obtain ⟨b, hb⟩ : ∃ b, b = (getT T k).isSome := ⟨_, rfl⟩
  rw [← hx, ← hb]
  obtain ⟨W1, hW1⟩ : ∃ W, W = w.alloc (.cells #[.int .u64 0, .int .u64 0, .int .u64 0, .int .u64 0, .int .u32 0, .int .u16 0] 68) := ⟨_, rfl⟩
  obtain ⟨W2, hW2⟩ : ∃ W, W = W1.alloc (.cells #[.int .u64 (x.tx : Nat), .int .u64 (x.first : Nat), .int .u64 (x.last : Nat), .int .u64 (x.next : Nat), .int .u32 (x.page : Nat), .int .u16 (x.slot : Nat)] 68) := ⟨_, rfl⟩
  have s1 : W1.heap.size = w.heap.size + 1 := by rw [hW1]; simp
  have s2 : W2.heap.size = w.heap.size + 2 := by rw [hW2]; simp [s1]
  have B2 : W2.heap[w.heap.size + 1]? = some (.cells #[.int .u64 (x.tx : Nat), .int .u64 (x.first : Nat), .int .u64 (x.last : Nat), .int .u64 (x.next : Nat), .int .u32 (x.page : Nat), .int .u16 (x.slot : Nat)] 68 (0, 0)) := by rw [hW2, ← s1]; exact heap_alloc_new W1 _
  have B1 : W2.heap[w.heap.size]? = some (.cells #[.int .u64 0, .int .u64 0, .int .u64 0, .int .u64 0, .int .u32 0, .int .u16 0] 68 (0, 0)) := by rw [hW2]; exact heap_keep (by rw [hW1]; exact heap_alloc_new w _)
  have hB1 : Below w.heap.size w W1 := by rw [hW1]; exact (Below.refl _ _).alloc (Nat.le_refl _) _
  have hB2 : Below w.heap.size w W2 := by rw [hW2]; exact hB1.alloc (by omega) _
  have h1 := h.below hB1
  have c0 := h1.c0
  have M := Lib.hid (tx_made W1 h1)
  have lk : (Instr.lookup 119 (.map (some m)) (.int .u64 (k : Nat)) true).run Try.prog W1 = .ok (.tuple #[.agg #[.int .u64 (x.tx : Nat), .int .u64 (x.first : Nat), .int .u64 (x.last : Nat), .int .u64 (x.next : Nat), .int .u32 (x.page : Nat), .int .u16 (x.slot : Nat)], .bool b]) W1 := by
    rw [hx, hb]
    cases hg : getT T k with
    | some y => exact h1.look hg
    | none => exact h1.lookN hk hg
  have P1 := Lib.hid B1
  have P2 := Lib.hid B2
  have HB2 := Lib.hid hB2
  have XB := Lib.hid (put6_blk (x := x) P1.out)
  have XK := Lib.hid (put6_kept W2 w.heap.size x)
  unfold put6 at XB XK
  rw [hW2] at XB XK P1 P2 HB2
  rw [hW1] at M c0 lk XB XK P1 P2 HB2
  clear hW1 hW2 s1 s2 B1 B2 hB1 hB2 h1 h hx hb
  obtain ⟨xt, xf, xl, xn, xp, xs⟩ := x
  simp only [TX.val, TX.cells] at *
  go_enter Try.func39, Try.ntmps39
  go_wp2_with fail
  refine M.out.mono ?_
  rintro e w1 ⟨rfl, rfl⟩
  go_upto_region 4 with fail
  generalize (w.alloc (.cells #[.int .u64 0, .int .u64 0, .int .u64 0, .int .u64 0, .int .u32 0, .int .u16 0] 68)).alloc (.cells #[.int .u64 (xt : Nat), .int .u64 (xf : Nat), .int .u64 (xl : Nat), .int .u64 (xn : Nat), .int .u32 (xp : Nat), .int .u16 (xs : Nat)] 68) = W5 at *
  obtain ⟨⟨x0, x1, x2, x3, x4, x5⟩, _⟩ := cells6 P2.out
  obtain ⟨_, f0, f1, f2, f3, f4, f5⟩ := cells6 P1.out
  have HB5 := Lib.hid (OthersKept.below HB2.out XK.out (fun k hk e => by omega))
  clear c0 lk
  go_wp2_with fail
  refine bodyPost_ret (v := .tuple #[.agg #[.int .u64 (xt : Nat), .int .u64 (xf : Nat), .int .u64 (xl : Nat), .int .u64 (xn : Nat), .int .u32 (xp : Nat), .int .u16 (xs : Nat)], .bool b]) (results_cell_tmp_x (p := 4) (u := 5) (by kernel_rfl) _ _ w.heap.size 68 _ (0, 0) _ rfl XB.out Try.underlying68 rfl (by kernel_rfl)) rfl ?_
  exact ⟨rfl, HB5.out⟩

end Go.Proofs.Ytoeaakadpillnaa
