/- chapter 23: New, made, on, Next. -/
import Derived.Test.YtoeaakadpillnaaRows
import Derived.Test.YtoeaakadpillnaaTxnId
import Derived.Test.YtoeaakadpillnaaTxnMap
import Derived.WalkKit
import Derived.WalkLawsBesides
import Derived.WalkSpells
import Derived.LoopTactic
import Derived.WalkMore
import Derived.LoopN
import Derived.Laws.BitsAllLaws
import Derived.Laws.IdiomStrings
import Derived.BigQuiet
import Derived.Deep.QuietTactic
import Derived.Deep.DeepCutAuto
import Derived.Deep.RegionHeld3
import Derived.Deep.DrawnRows
import Derived.Lib.Hide
import Derived.Outline
import Derived.Deep.DeepMust
import Derived.Handy
namespace Go.Proofs.Ytoeaakadpillnaa
open Go.RowKit
set_option linter.unusedVariables false
set_option linter.unusedSimpArgs false

open Go.Maps Go.Conc
theorem cells6 {w : World} {g : Nat} {t : TypeId} {a0 a1 a2 a3 a4 a5 : Value} (h : w.heap[g]? = some (.cells #[a0, a1, a2, a3, a4, a5] t (0, 0))) :
    (w.cell? ⟨g, 0, none⟩ = some a0 ∧ w.cell? ⟨g, 1, none⟩ = some a1 ∧ w.cell? ⟨g, 2, none⟩ = some a2 ∧ w.cell? ⟨g, 3, none⟩ = some a3 ∧ w.cell? ⟨g, 4, none⟩ = some a4 ∧ w.cell? ⟨g, 5, none⟩ = some a5) ∧
    (w.frozen? ⟨g, 0, none⟩ = false ∧ w.frozen? ⟨g, 1, none⟩ = false ∧ w.frozen? ⟨g, 2, none⟩ = false ∧ w.frozen? ⟨g, 3, none⟩ = false ∧ w.frozen? ⟨g, 4, none⟩ = false ∧ w.frozen? ⟨g, 5, none⟩ = false) := by
  refine ⟨⟨?_, ?_, ?_, ?_, ?_, ?_⟩, blk_frozen h 0, blk_frozen h 1, blk_frozen h 2, blk_frozen h 3, blk_frozen h 4, blk_frozen h 5⟩ <;> rw [blk_cell h] <;> rfl
def put6 (W : World) (g : Nat) (x : TX) : World := (((((W.setCell ⟨g, 0, none⟩ (.int .u64 (x.tx : Nat))).setCell ⟨g, 1, none⟩ (.int .u64 (x.first : Nat))).setCell ⟨g, 2, none⟩ (.int .u64 (x.last : Nat))).setCell ⟨g, 3, none⟩ (.int .u64 (x.next : Nat))).setCell ⟨g, 4, none⟩ (.int .u32 (x.page : Nat))).setCell ⟨g, 5, none⟩ (.int .u16 (x.slot : Nat))
theorem put6_blk {W : World} {g : Nat} {t : TypeId} {a0 a1 a2 a3 a4 a5 : Value} (h : W.heap[g]? = some (.cells #[a0, a1, a2, a3, a4, a5] t (0, 0))) (x : TX) : (put6 W g x).heap[g]? = some (.cells x.cells.toArray t (0, 0)) := by
  have := blk_set (blk_set (blk_set (blk_set (blk_set (blk_set h 0 (.int .u64 (x.tx : Nat))) 1 (.int .u64 (x.first : Nat))) 2 (.int .u64 (x.last : Nat))) 3 (.int .u64 (x.next : Nat))) 4 (.int .u32 (x.page : Nat))) 5 (.int .u16 (x.slot : Nat))
  simp only [List.setIfInBounds_toArray, List.set_cons_zero, List.set_cons_succ] at this
  exact this
theorem put6_kept (W : World) (g : Nat) (x : TX) : OthersKept W (put6 W g x) (fun k => k = g) := OthersKept.of_grown (p := fun k => k = g) (g := g) (grown_set (grown_set (grown_set (grown_set (grown_set (grown_set (grown_refl _ _))))))) rfl
theorem results_cell_tmp_x {P : Program} {fn : Func} {p u : Tmp} {ty : TypeId} (h : fn.results = #[.cell p ty, .tmp u]) (tmps : Array Value) (w : World) (g : Nat) (t : TypeId) (cs : Array Value) (fr : Nat × Nat) (d : TypeDesc)
    (hp : tmps.getD p undef = .pointer (some ⟨g, 0, none⟩)) (hg : w.heap[g]? = some (.cells cs t fr))
    (hu : P.underlying ty = some d) (hd : (match d with | .struct _ | .array _ _ => true | _ => false) = true) (hi : (P.info? ty).map (·.size) = some cs.size) :
    (results fn tmps).run P w = .ok (.tuple #[.agg cs, tmps.getD u undef]) w := by
  rw [results_cell_tmp h, hp]
  simp [asAddr, run_loadVar_row w g t ty cs fr d hg hu hd hi, Result.andThen]

theorem chanInfo : ∃ i, Try.prog.info? 27 = some i ∧ i.bytes = 8 := by
  have h : (Try.prog.info? 27).map (·.bytes) = some 8 := by kernel_rfl
  obtain ⟨i, hi, hb⟩ := Option.map_eq_some_iff.1 h
  exact ⟨i, hi, hb⟩
theorem mkChan (w : World) : (Instr.makeChan 120 (.int .i64 1)).run Try.prog w = .ok (.chan (some w.heap.size)) (w.alloc (.chan 1 #[] false 0 0 false)) := by
  obtain ⟨i, hi, hb⟩ := chanInfo
  simpa using run_makeChan (P := Try.prog) (w := w) Try.underlying120 hi .i64 1 (by omega) (by rw [hb]; omega)

set_option maxRecDepth 100000 in
theorem tx_new (w : World) (tx number : Nat) (h1 : 1 ≤ tx) (h2 : 1 ≤ number) (h3 : tx ≤ 4611686018427387904) (h4 : number ≤ 4611686018427387904) :
    Calls Try.prog 37 #[.int .u64 (tx : Nat), .int .u64 (number : Nat)] w fun e w' => ∃ g m c, e = .returned (.tuple #[.pointer (some ⟨g, 0, none⟩), .int .i64 0]) ∧ TtAt w' g m c tx number [] ∧ w.heap.size ≤ g ∧ w.heap.size ≤ m ∧ w.heap.size ≤ c ∧ Below w.heap.size w w' := by
  have hmm := @run_makeMap Try.prog
  have hmc := mkChan
  have ho := World.ownsMap_made (H := Value) w Try.prog 27 heldX
  have hO : Hid (TtAt (((w.alloc (.map #[] 0)).alloc (.chan 1 #[] false 0 0 false)).alloc (.cells #[.map (some w.heap.size), .chan (some (w.heap.size + 1)), .int .u64 (tx : Nat), .int .u64 (number : Nat)] 122)) (w.heap.size + 2) w.heap.size (w.heap.size + 1) tx number []) := by
    have e : ((w.alloc (.map #[] 0)).alloc (.chan 1 #[] false 0 0 false)).heap.size = w.heap.size + 2 := by simp
    have hb := heap_alloc_new ((w.alloc (.map #[] 0)).alloc (.chan 1 #[] false 0 0 false)) (.cells #[.map (some w.heap.size), .chan (some (w.heap.size + 1)), .int .u64 (tx : Nat), .int .u64 (number : Nat)] 122)
    rw [e] at hb
    have hc := heap_alloc_new (w.alloc (.map #[] 0)) (.chan 1 #[] false 0 0 false)
    rw [show (w.alloc (.map #[] 0)).heap.size = w.heap.size + 1 by simp] at hc
    exact ⟨hb, ⟨0, 0, heap_keep hc⟩, ⟨_, (ho.alloc _).alloc _, TxD.empty⟩, List.Pairwise.nil, fun x h => (by cases h), by simp, by omega, by omega⟩
  clear ho
  go_enter Try.func37, Try.ntmps37
  go_wp2_with fail
  go_ret2
  exact ⟨_, _, _, rfl, hO.out, by omega, Nat.le_refl _, by omega, (((Below.refl _ _).alloc (Nat.le_refl _) _).alloc (by simp) _).alloc (by simp; omega) _⟩
set_option maxRecDepth 100000 in
theorem tx_new_bad (w : World) (tx number : Nat) (h : tx < 1 ∨ number < 1 ∨ 4611686018427387904 < tx ∨ 4611686018427387904 < number) :
    Calls Try.prog 37 #[.int .u64 (tx : Nat), .int .u64 (number : Nat)] w fun e w' => e = .returned (.tuple #[.pointer none, .int .i64 2]) ∧ Below w.heap.size w w' := by
  by_cases h1 : tx < 1
  · have e1 : (tx : Int) < 1 := by omega
    clear h
    go_enter Try.func37, Try.ntmps37
    go_wp2_with fail
    go_ret2
    exact ⟨rfl, Below.refl _ _⟩
  have e1 : ¬ (tx : Int) < 1 := by omega
  by_cases h2 : number < 1
  · have e2 : (number : Int) < 1 := by omega
    clear h
    go_enter Try.func37, Try.ntmps37
    go_wp2_with fail
    go_ret2
    exact ⟨rfl, Below.refl _ _⟩
  have e2 : ¬ (number : Int) < 1 := by omega
  by_cases h3 : 4611686018427387904 < tx
  · have e3 : 4611686018427387904 < (tx : Int) := by omega
    clear h
    go_enter Try.func37, Try.ntmps37
    go_wp2_with fail
    go_ret2
    exact ⟨rfl, Below.refl _ _⟩
  have e3 : ¬ 4611686018427387904 < (tx : Int) := by omega
  have e4 : 4611686018427387904 < (number : Int) := by omega
  clear h
  go_enter Try.func37, Try.ntmps37
  go_wp2_with fail
  go_ret2
  exact ⟨rfl, Below.refl _ _⟩

theorem tx_made (w : World) {g m c tx number : Nat} {T : TT} (h : TtAt w g m c tx number T) :
    Calls Try.prog 68 #[.pointer (some ⟨g, 0, none⟩)] w fun e w' => e = .returned (.bool true) ∧ w = w' := by
  have c0 := h.c0
  have hn : (binOp .neq 119 (.map (some m)) (.map none)).run Try.prog w = .ok (.bool true) w := by kernel_rfl
  clear h
  go_enter Try.func68, Try.ntmps68
  go_wp2_with fail
  go_ret
  exact ⟨rfl, rfl⟩

set_option maxRecDepth 100000 in
theorem tx_on (w : World) {g m c tx number : Nat} {T : TT} (h : TtAt w g m c tx number T) (k : Nat) (hk : k < 18446744073709551616) :
    Calls Try.prog 71 #[.pointer (some ⟨g, 0, none⟩), .int .u64 (k : Nat)] w fun e w' => e = .returned (.int .i64 (if (getT T k).isSome then 0 else 230)) ∧ Below w.heap.size w w' := by
  have M := Lib.hid (tx_made w h)
  have c0 := h.c0
  cases hg : getT T k with
  | some x =>
    have lk := h.look hg
    have hB1 := Lib.hid ((Below.refl w.heap.size w).alloc (Nat.le_refl _) (.cells x.cells.toArray 68))
    simp only [TX.val] at lk
    clear h hg
    obtain ⟨xt, xf, xl, xn, xp, xs⟩ := x
    go_enter Try.func71, Try.ntmps71
    go_wp2_with fail
    refine M.out.mono ?_
    rintro e w1 ⟨rfl, rfl⟩
    go_wp2_with fail
    go_ret
    exact ⟨rfl, hB1.out⟩
  | none =>
    have lk := h.lookN hk hg
    have hB1 := Lib.hid ((Below.refl w.heap.size w).alloc (Nat.le_refl _) (.cells (tx0 0).cells.toArray 68))
    have lk2 : (Instr.lookup 119 (.map (some m)) (.int .u64 (k : Nat)) true).run Try.prog w = .ok (.tuple #[.agg #[.int .u64 0, .int .u64 0, .int .u64 0, .int .u64 0, .int .u32 0, .int .u16 0], .bool false]) w := lk
    clear h hg lk
    go_enter Try.func71, Try.ntmps71
    go_wp2_with fail
    refine M.out.mono ?_
    rintro e w1 ⟨rfl, rfl⟩
    go_wp2_with fail
    go_ret
    exact ⟨rfl, hB1.out⟩

set_option maxRecDepth 100000 in
theorem tx_next (w : World) {g m c tx number : Nat} {T : TT} (h : TtAt w g m c tx number T) :
    Calls Try.prog 44 #[.pointer (some ⟨g, 0, none⟩)] w fun e w' => e = .returned (.tuple #[.int .u64 (tx : Nat), .int .u64 (number : Nat)]) ∧ Below w.heap.size w w' := by
  have M := Lib.hid (tx_made w h)
  have c2 := h.c2
  have c3 := h.c3
  have e2 := ext_cell c2 (cell_lt c2)
  have e3 := ext_cell c3 (cell_lt c3)
  clear h
  go_enter Try.func44, Try.ntmps44
  go_wp2_with fail
  refine M.out.mono ?_
  rintro e w1 ⟨rfl, rfl⟩
  go_upto_region 3 with fail
  refine wp_region_ext w.heap.size (by kernel_rfl) (by kernel_rfl) ?_
  repeat (go_big_quiet_step (fail))
  refine wpQuiet_nil ?_
  rintro _ ⟨X, rfl⟩
  have HX := Lib.hid X.below
  go_wp2_with fail
  go_ret2
  exact ⟨rfl, HX.out⟩

end Go.Proofs.Ytoeaakadpillnaa
