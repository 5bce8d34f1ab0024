/- chapter 23: Begin, End, Commit. -/
import Derived.Test.YtoeaakadpillnaaRows
import Derived.Test.YtoeaakadpillnaaTxnWalks
import Derived.WalkKit
import Derived.WalkLawsBesides
import Derived.WalkSpells
import Derived.LoopTactic
import Derived.WalkMore
import Derived.LoopN
import Derived.Laws.BitsAllLaws
import Derived.Laws.IdiomStrings
import Derived.BigQuiet
import Derived.Deep.QuietTactic
import Derived.Deep.DeepCutAuto
import Derived.Deep.RegionHeld3
import Derived.Deep.DrawnRows
import Derived.Lib.Hide
import Derived.Outline
import Derived.Deep.DeepMust
import Derived.Handy
namespace Go.Proofs.Ytoeaakadpillnaa
open Go.RowKit
set_option linter.unusedVariables false
set_option linter.unusedSimpArgs false

open Go.Maps Go.Conc
theorem OthersKept.mine1 {w w' : World} {g m c : Nat} (h : OthersKept w w' (fun k => k = m)) : OthersKept w w' (mine g m c) := ⟨h.os, h.tape, h.output, h.size, fun k hk hp => h.block k hk (fun e => hp (.inr (.inl e)))⟩
theorem OthersKept.mine0 {w w' : World} {g m c : Nat} (h : OthersKept w w' (fun k => k = g)) : OthersKept w w' (mine g m c) := ⟨h.os, h.tape, h.output, h.size, fun k hk hp => h.block k hk (fun e => hp (.inl e))⟩
theorem OthersKept.mine2 {w w' : World} {g m c : Nat} (h : OthersKept w w' (fun k => k = g ∨ k = c)) : OthersKept w w' (mine g m c) := ⟨h.os, h.tape, h.output, h.size, fun k hk hp => h.block k hk (fun e => hp (e.elim .inl (fun e => .inr (.inr e))))⟩
theorem OthersKept.same {w w1 w2 : World} {p : Nat → Prop} (h : OthersKept w w1 p) (h2 : OthersKept w1 w2 p) : OthersKept w w2 p := h.trans h2 (fun _ _ h => h)

set_option maxHeartbeats 4000000 in
set_option maxRecDepth 100000 in
theorem tx_begin (w : World) {g m c tx number : Nat} {T : TT} (h : TtAt w g m c tx number T) (hn : T.length < 32) (hl : tx ≤ 4611686018427387904) :
    Calls Try.prog 43 #[.pointer (some ⟨g, 0, none⟩)] w fun e w' => e = .returned (.tuple #[.int .u64 (tx : Nat), .int .i64 0]) ∧ TtAt w' g m c (tx + 1) number (insT T (tx0 tx)) ∧ OthersKept w w' (mine g m c) := by
  have M := Lib.hid (tx_made w h)
  have I := Lib.hid (tx_id w h hl)
  have c0 := h.c0
  have c2 := h.c2
  have ln := h.len
  have HN := Lib.hid (T_under_none h.under (Nat.le_refl tx))
  have HR := Lib.hid h.rising
  have HU := Lib.hid h.under
  have e1 : ¬ (32 : Int) ≤ (T.length : Int) := by omega
  have e2 : ¬ 4611686018427387904 < (tx : Int) := by omega
  clear h
  go_enter Try.func43, Try.ntmps43
  go_wp2_with fail
  refine M.out.mono ?_
  rintro e w1 ⟨rfl, rfl⟩
  go_wp2_with fail
  refine I.out.mono ?_
  rintro e w2 ⟨rfl, h2, hk2⟩
  obtain ⟨w3, hrun, hg3, hex⟩ := h2.put (tx0 tx) HN.out hn (tx' := tx + 1) (by show tx < tx + 1; omega) (Nat.le_refl _) (by show tx < _; omega)
  have hrun2 : (Instr.mapUpdate 119 (.map (some m)) (.int .u64 (tx : Nat)) (.agg #[.int .u64 (tx : Nat), .int .u64 0, .int .u64 0, .int .u64 0, .int .u32 0, .int .u16 0])).run Try.prog w2 = .ok () w3 := hrun
  have H3 := Lib.hid (h2.turned hg3 hex (T_rising_ins HR.out HN.out) (T_under_ins HU.out (by omega) (by show tx < tx + 1; omega)) (by rw [T_length_ins]; omega))
  have HK := Lib.hid (hk2.mine2.same (OthersKept.of_grown (p := fun k => k = m) (g := m) hg3 rfl).mine1)
  clear c0 c2 ln
  have c0 := h2.c0
  clear hrun hg3 hex h2 hk2
  go_wp2_with fail
  go_ret2
  exact ⟨rfl, H3.out, HK.out⟩
set_option maxRecDepth 100000 in
theorem tx_begin_full (w : World) {g m c tx number : Nat} {T : TT} (h : TtAt w g m c tx number T) (hf : 32 ≤ T.length ∨ 4611686018427387904 < tx) :
    Calls Try.prog 43 #[.pointer (some ⟨g, 0, none⟩)] w fun e w' => e = .returned (.tuple #[.int .u64 0, .int .i64 4]) ∧ Below w.heap.size w w' := by
  have M := Lib.hid (tx_made w h)
  have c0 := h.c0
  have c2 := h.c2
  have ln := h.len
  clear h
  by_cases h1 : 32 ≤ T.length
  · have e1 : (32 : Int) ≤ (T.length : Int) := by omega
    clear hf
    go_enter Try.func43, Try.ntmps43
    go_wp2_with fail
    refine M.out.mono ?_
    rintro e w1 ⟨rfl, rfl⟩
    go_wp2_with fail
    go_ret2
    exact ⟨rfl, Below.refl _ _⟩
  · have e1 : ¬ (32 : Int) ≤ (T.length : Int) := by omega
    have e2 : 4611686018427387904 < (tx : Int) := by omega
    clear hf
    go_enter Try.func43, Try.ntmps43
    go_wp2_with fail
    refine M.out.mono ?_
    rintro e w1 ⟨rfl, rfl⟩
    go_wp2_with fail
    go_ret2
    exact ⟨rfl, Below.refl _ _⟩

set_option maxRecDepth 100000 in
theorem tx_end (w : World) {g m c tx number : Nat} {T : TT} (h : TtAt w g m c tx number T) (k : Nat) {y : TX} (hy : getT T k = some y) :
    Calls Try.prog 41 #[.pointer (some ⟨g, 0, none⟩), .int .u64 (k : Nat)] w fun e w' => e = .returned (.int .i64 0) ∧ TtAt w' g m c tx number (delT T k) ∧ OthersKept w w' (mine g m c) := by
  have hk := h.tx64 hy
  have O := Lib.hid (tx_on w h k hk)
  rw [hy] at O
  have H := Lib.hid h
  have HY := Lib.hid hy
  clear h hy
  go_enter Try.func41, Try.ntmps41
  go_wp2_with fail
  refine O.out.mono ?_
  rintro e w1 ⟨rfl, hb⟩
  have h1 := H.out.below hb
  have c0 := h1.c0
  obtain ⟨w2, hrun, h2, hg2⟩ := h1.drop HY.out 0
  have H2 := Lib.hid h2
  have HK := Lib.hid ((OthersKept.of_below (p := mine g m c) hb).same (OthersKept.of_grown (p := fun k => k = m) (g := m) hg2 rfl).mine1)
  clear h1 h2 hg2 hb
  go_wp2_with fail
  go_ret
  exact ⟨rfl, H2.out, HK.out⟩
set_option maxRecDepth 100000 in
theorem tx_end_none (w : World) {g m c tx number : Nat} {T : TT} (h : TtAt w g m c tx number T) (k : Nat) (hk : k < 18446744073709551616) (hy : getT T k = none) :
    Calls Try.prog 41 #[.pointer (some ⟨g, 0, none⟩), .int .u64 (k : Nat)] w fun e w' => e = .returned (.int .i64 230) ∧ Below w.heap.size w w' := by
  have O := Lib.hid (tx_on w h k hk)
  rw [hy] at O
  clear h hy
  go_enter Try.func41, Try.ntmps41
  go_wp2_with fail
  refine O.out.mono ?_
  rintro e w1 ⟨rfl, hb⟩
  have HB := Lib.hid hb
  clear hb
  go_wp2_with fail
  go_ret
  exact ⟨rfl, HB.out⟩

set_option maxHeartbeats 4000000 in
set_option maxRecDepth 100000 in
theorem tx_commit (w : World) {g m c tx number : Nat} {T : TT} (h : TtAt w g m c tx number T) (k : Nat) {y : TX} (hy : getT T k = some y) (hn : number ≤ 4611686018427387904) :
    Calls Try.prog 40 #[.pointer (some ⟨g, 0, none⟩), .int .u64 (k : Nat)] w fun e w' => e = .returned (.tuple #[.int .u64 (number : Nat), .int .i64 0]) ∧ TtAt w' g m c tx (number + 1) (delT T k) ∧ OthersKept w w' (mine g m c) := by
  have hk := h.tx64 hy
  have O := Lib.hid (tx_on w h k hk)
  rw [hy] at O
  have H := Lib.hid h
  have HY := Lib.hid hy
  have e2 : ¬ 4611686018427387904 < (number : Int) := by omega
  have hw : IntKind.u64.wrap ((number : Int) + 1) = ((number + 1 : Nat) : Int) := by rw [IntKind.wrap_u64]; omega
  have hw2 : IntKind.u64.wrap (((number + 1 : Nat) : Int) - 1) = (number : Int) := by rw [IntKind.wrap_u64]; omega
  generalize hN : number + 1 = N at *
  have hN1 := Lib.hid hN
  clear h hy hN
  go_enter Try.func40, Try.ntmps40
  go_wp2_with fail
  refine O.out.mono ?_
  rintro e w1 ⟨rfl, hb⟩
  have h1 := H.out.below hb
  have c3 := h1.c3
  have E := Lib.hid (tx_end w1 h1 k HY.out)
  have HB := Lib.hid hb
  clear h1 hb
  go_wp2_with fail
  refine E.out.mono ?_
  rintro e w2 ⟨rfl, h2, hk2⟩
  clear c3
  have c3 := h2.c3
  have f3 := blk_frozen h2.own 3
  have h3 := h2.set3 (number + 1) (by omega)
  rw [hN1.out] at h3
  have H3 := Lib.hid h3
  have HK := Lib.hid (((OthersKept.of_below (p := mine g m c) HB.out).same hk2).same (OthersKept.of_grown (p := fun k => k = g) (g := g) (grown_set (i := 3) (u := .int .u64 (N : Nat)) (grown_refl w2 g)) rfl).mine0)
  have c3' := h3.c3
  clear h2 hk2 h3
  go_wp2_with fail
  go_ret2
  exact ⟨rfl, H3.out, HK.out⟩
set_option maxRecDepth 100000 in
theorem tx_commit_no (w : World) {g m c tx number : Nat} {T : TT} (h : TtAt w g m c tx number T) (k : Nat) (hk : k < 18446744073709551616) (hf : getT T k = none ∨ 4611686018427387904 < number) :
    Calls Try.prog 40 #[.pointer (some ⟨g, 0, none⟩), .int .u64 (k : Nat)] w fun e w' => e = .returned (.tuple #[.int .u64 0, .int .i64 (if (getT T k).isSome then 4 else 230)]) ∧ Below w.heap.size w w' := by
  have O := Lib.hid (tx_on w h k hk)
  have H := Lib.hid h
  clear h
  cases hy : getT T k with
  | none =>
    rw [hy] at O
    clear hf hy
    go_enter Try.func40, Try.ntmps40
    go_wp2_with fail
    refine O.out.mono ?_
    rintro e w1 ⟨rfl, hb⟩
    have HB := Lib.hid hb
    clear hb
    go_wp2_with fail
    go_ret2
    exact ⟨rfl, HB.out⟩
  | some y =>
    rw [hy] at O hf
    have e2 : 4611686018427387904 < (number : Int) := by rcases hf with h | h; cases h; omega
    clear hf hy
    go_enter Try.func40, Try.ntmps40
    go_wp2_with fail
    refine O.out.mono ?_
    rintro e w1 ⟨rfl, hb⟩
    have HB := Lib.hid hb
    have c3 := (H.out.below hb).c3
    clear hb
    go_wp2_with fail
    go_ret2
    exact ⟨rfl, HB.out⟩

end Go.Proofs.Ytoeaakadpillnaa
