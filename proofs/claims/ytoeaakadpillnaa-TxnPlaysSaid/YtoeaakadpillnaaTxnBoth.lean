/- chapter 23: both tables, call by call. -/
import Derived.Test.YtoeaakadpillnaaRows
import Derived.Test.YtoeaakadpillnaaTxnRef
import Derived.Test.YtoeaakadpillnaaTxnRaiseWalk
import Derived.Test.YtoeaakadpillnaaTxnSet
import Derived.Test.YtoeaakadpillnaaTxnGet
import Derived.WalkKit
import Derived.WalkLawsBesides
import Derived.WalkSpells
import Derived.LoopTactic
import Derived.WalkMore
import Derived.LoopN
import Derived.Laws.BitsAllLaws
import Derived.Laws.IdiomStrings
import Derived.BigQuiet
import Derived.Deep.QuietTactic
import Derived.Deep.DeepCutAuto
import Derived.Deep.RegionHeld3
import Derived.Deep.DrawnRows
import Derived.Lib.Hide
import Derived.Outline
import Derived.Deep.DeepMust
import Derived.Handy
namespace Go.Proofs.Ytoeaakadpillnaa
open Go.RowKit
set_option linter.unusedVariables false
set_option linter.unusedSimpArgs false

open Go.Maps
def beginR (tx : Nat) (T : TT) : (Nat × Int) × Nat × TT := if T.length < 32 ∧ tx ≤ 4611686018427387904 then ((tx, 0), tx + 1, insT T (tx0 tx)) else ((0, 4), tx, T)
def commitR (no : Nat) (T : TT) (k : Nat) : (Nat × Int) × Nat × TT := if (getT T k).isSome then (if no ≤ 4611686018427387904 then ((no, 0), no + 1, delT T k) else ((0, 4), no, T)) else ((0, 230), no, T)
def endR (T : TT) (k : Nat) : Int × TT := if (getT T k).isSome then (0, delT T k) else (230, T)
def setR (T : TT) (x : TX) : Int × TT := if (getT T x.tx).isSome then (0, setT T x) else (230, T)
def addR (tx : Nat) (T : TT) (x : TX) : Int × Nat × TT := if x.tx = 0 ∨ 4611686018427387904 < x.tx then (2, tx, T) else if (getT T x.tx).isSome then (8, tx, T) else if 32 ≤ T.length then (4, tx, T) else (0, max tx (x.tx + 1), insT T x)
def raiseR (tx no a b : Nat) : Int × Nat × Nat := if a ≤ 4611686018427387904 ∧ b ≤ 4611686018427387904 then (0, max tx a, max no b) else (2, tx, no)
section
variable (w : World) {g m c gR tx no : Nat} {v : Value} {T : TT}
theorem bt_begin (h : TtAt w g m c tx no T) : Calls Try.prog 43 #[.pointer (some ⟨g, 0, none⟩)] w fun e w' => e = .returned (.tuple #[.int .u64 ((beginR tx T).1.1 : Nat), .int .i64 (beginR tx T).1.2]) ∧ TtAt w' g m c (beginR tx T).2.1 no (beginR tx T).2.2 ∧ OthersKept w w' (mine g m c) := by
  unfold beginR
  by_cases h1 : T.length < 32 ∧ tx ≤ 4611686018427387904
  · rw [if_pos h1]; exact tx_begin w h h1.1 h1.2
  · rw [if_neg h1]
    exact (tx_begin_full w h (by omega)).mono fun e w1 ⟨he, hb⟩ => ⟨he, h.below hb, OthersKept.of_below hb⟩
theorem br_begin (h : RtAt w gR v tx no T) (hu : Under T tx) : Calls Try.prog 75 #[.pointer (some ⟨gR, 0, none⟩)] w fun e w' => e = .returned (.tuple #[.int .u64 ((beginR tx T).1.1 : Nat), .int .i64 (beginR tx T).1.2]) ∧ RtNow w w' gR v (beginR tx T).2.1 no (beginR tx T).2.2 := by
  unfold beginR
  by_cases h1 : T.length < 32 ∧ tx ≤ 4611686018427387904
  · rw [if_pos h1]; exact rt_begin gR v tx no T w h hu h1.1 h1.2
  · rw [if_neg h1]
    exact (rt_begin_full gR v tx no T w h (by omega)).mono fun e w1 ⟨he, hb⟩ => ⟨he, by subst hb; exact RtNow.stay h (Below.refl _ _)⟩
theorem bt_commit (h : TtAt w g m c tx no T) (k : Nat) (hk : k < 18446744073709551616) : Calls Try.prog 40 #[.pointer (some ⟨g, 0, none⟩), .int .u64 (k : Nat)] w fun e w' => e = .returned (.tuple #[.int .u64 ((commitR no T k).1.1 : Nat), .int .i64 (commitR no T k).1.2]) ∧ TtAt w' g m c tx (commitR no T k).2.1 (commitR no T k).2.2 ∧ OthersKept w w' (mine g m c) := by
  unfold commitR
  cases hy : getT T k with
  | none =>
    have := tx_commit_no w h k hk (.inl hy)
    rw [hy] at this
    exact this.mono fun e w1 ⟨he, hb⟩ => ⟨he, h.below hb, OthersKept.of_below hb⟩
  | some y =>
    rw [if_pos (by rfl)]
    by_cases hn : no ≤ 4611686018427387904
    · rw [if_pos hn]; exact tx_commit w h k hy hn
    · rw [if_neg hn]
      have := tx_commit_no w h k hk (.inr (by omega))
      rw [hy] at this
      exact this.mono fun e w1 ⟨he, hb⟩ => ⟨he, h.below hb, OthersKept.of_below hb⟩
theorem br_commit (h : RtAt w gR v tx no T) (k : Nat) : Calls Try.prog 76 #[.pointer (some ⟨gR, 0, none⟩), .int .u64 (k : Nat)] w fun e w' => e = .returned (.tuple #[.int .u64 ((commitR no T k).1.1 : Nat), .int .i64 (commitR no T k).1.2]) ∧ RtNow w w' gR v tx (commitR no T k).2.1 (commitR no T k).2.2 := by
  unfold commitR
  cases hy : getT T k with
  | none =>
    have := rt_commit_no gR v tx no T k w h (.inl hy)
    rw [hy] at this
    exact this.mono fun e w1 ⟨he, hb⟩ => ⟨he, by subst hb; exact RtNow.stay h (Below.refl _ _)⟩
  | some y =>
    rw [if_pos (by rfl)]
    by_cases hn : no ≤ 4611686018427387904
    · rw [if_pos hn]; exact rt_commit gR v tx no T k w h hy hn
    · rw [if_neg hn]
      have := rt_commit_no gR v tx no T k w h (.inr (by omega))
      rw [hy] at this
      exact this.mono fun e w1 ⟨he, hb⟩ => ⟨he, by subst hb; exact RtNow.stay h (Below.refl _ _)⟩
theorem bt_end (h : TtAt w g m c tx no T) (k : Nat) (hk : k < 18446744073709551616) : Calls Try.prog 41 #[.pointer (some ⟨g, 0, none⟩), .int .u64 (k : Nat)] w fun e w' => e = .returned (.int .i64 (endR T k).1) ∧ TtAt w' g m c tx no (endR T k).2 ∧ OthersKept w w' (mine g m c) := by
  unfold endR
  cases hy : getT T k with
  | none => exact (tx_end_none w h k hk hy).mono fun e w1 ⟨he, hb⟩ => ⟨he, h.below hb, OthersKept.of_below hb⟩
  | some y => rw [if_pos (by rfl)]; exact tx_end w h k hy
theorem br_end (h : RtAt w gR v tx no T) (k : Nat) : Calls Try.prog 77 #[.pointer (some ⟨gR, 0, none⟩), .int .u64 (k : Nat)] w fun e w' => e = .returned (.int .i64 (endR T k).1) ∧ RtNow w w' gR v tx no (endR T k).2 := by
  unfold endR
  cases hy : getT T k with
  | none => exact (rt_end_none gR v tx no T k w h hy).mono fun e w1 ⟨he, hb⟩ => ⟨he, by subst hb; exact RtNow.stay h (Below.refl _ _)⟩
  | some y => rw [if_pos (by rfl)]; exact rt_end gR v tx no T k w h hy
theorem bt_set (h : TtAt w g m c tx no T) (x : TX) (hk : x.tx < 18446744073709551616) : Calls Try.prog 42 #[.pointer (some ⟨g, 0, none⟩), x.val] w fun e w' => e = .returned (.int .i64 (setR T x).1) ∧ TtAt w' g m c tx no (setR T x).2 ∧ OthersKept w w' (mine g m c) := by
  unfold setR
  cases hy : getT T x.tx with
  | none => exact (tx_set_none w h x hk hy).mono fun e w1 ⟨he, hb⟩ => ⟨he, h.below hb, OthersKept.of_below hb⟩
  | some y => rw [if_pos (by rfl)]; exact tx_set w h x hy
theorem br_set (h : RtAt w gR v tx no T) (x : TX) : Calls Try.prog 78 #[.pointer (some ⟨gR, 0, none⟩), x.val] w fun e w' => e = .returned (.int .i64 (setR T x).1) ∧ RtNow w w' gR v tx no (setR T x).2 := by
  unfold setR
  cases hy : getT T x.tx with
  | none => exact (rt_set_none gR v tx no T x w h hy).mono fun e w1 ⟨he, hb⟩ => ⟨he, RtNow.stay h hb⟩
  | some y => rw [if_pos (by rfl)]; exact rt_set gR v tx no T x w h hy
theorem addR_eq (T : TT) (x : TX) (tx : Nat) (h : ¬ (getT T x.tx = none ∧ 1 ≤ x.tx ∧ x.tx ≤ 4611686018427387904 ∧ T.length < 32)) : addR tx T x = ((if x.tx = 0 ∨ 4611686018427387904 < x.tx then 2 else if (getT T x.tx).isSome then 8 else 4), tx, T) := by
  unfold addR
  by_cases h1 : x.tx = 0 ∨ 4611686018427387904 < x.tx
  · rw [if_pos h1, if_pos h1]
  · rw [if_neg h1, if_neg h1]
    cases hy : getT T x.tx with
    | some y => rfl
    | none =>
      simp only [Option.isSome_none, Bool.false_eq_true, if_false]
      rw [if_pos (by rcases Nat.lt_or_ge T.length 32 with h2 | h2; exact absurd ⟨hy, by omega, by omega, h2⟩ h; exact h2)]
theorem addR_ok (T : TT) (x : TX) (tx : Nat) (h : getT T x.tx = none ∧ 1 ≤ x.tx ∧ x.tx ≤ 4611686018427387904 ∧ T.length < 32) : addR tx T x = (0, max tx (x.tx + 1), insT T x) := by
  unfold addR
  rw [if_neg (by omega), h.1, if_neg (by simp), if_neg (by omega)]
theorem add_bad {T : TT} {x : TX} (h : ¬ (getT T x.tx = none ∧ 1 ≤ x.tx ∧ x.tx ≤ 4611686018427387904 ∧ T.length < 32)) : x.tx = 0 ∨ 4611686018427387904 < x.tx ∨ (getT T x.tx).isSome = true ∨ 32 ≤ T.length := by
  cases hy : getT T x.tx with
  | some y => exact .inr (.inr (.inl rfl))
  | none =>
    rw [hy] at h
    simp at h
    omega
theorem bt_add (h : TtAt w g m c tx no T) (x : TX) (hk : x.tx < 18446744073709551616) : Calls Try.prog 46 #[.pointer (some ⟨g, 0, none⟩), x.val] w fun e w' => e = .returned (.int .i64 (addR tx T x).1) ∧ TtAt w' g m c (addR tx T x).2.1 no (addR tx T x).2.2 ∧ OthersKept w w' (mine g m c) := by
  by_cases hok : getT T x.tx = none ∧ 1 ≤ x.tx ∧ x.tx ≤ 4611686018427387904 ∧ T.length < 32
  · rw [addR_ok T x tx hok]; exact tx_add w h x hok.1 hok.2.1 hok.2.2.1 hok.2.2.2
  · rw [addR_eq T x tx hok]
    exact (tx_add_no w h x hk (add_bad hok)).mono fun e w1 ⟨he, hb⟩ => ⟨he, h.below hb, OthersKept.of_below hb⟩
theorem br_add (h : RtAt w gR v tx no T) (x : TX) : Calls Try.prog 79 #[.pointer (some ⟨gR, 0, none⟩), x.val] w fun e w' => e = .returned (.int .i64 (addR tx T x).1) ∧ RtNow w w' gR v (addR tx T x).2.1 no (addR tx T x).2.2 := by
  by_cases hok : getT T x.tx = none ∧ 1 ≤ x.tx ∧ x.tx ≤ 4611686018427387904 ∧ T.length < 32
  · rw [addR_ok T x tx hok]; exact rt_add gR v tx no T x w h hok.1 hok.2.1 hok.2.2.1 hok.2.2.2
  · rw [addR_eq T x tx hok]
    exact (rt_add_no gR v tx no T x w h (add_bad hok)).mono fun e w1 ⟨he, hb⟩ => ⟨he, RtNow.stay h hb⟩
theorem bt_raise (h : TtAt w g m c tx no T) (a b : Nat) : Calls Try.prog 45 #[.pointer (some ⟨g, 0, none⟩), .int .u64 (a : Nat), .int .u64 (b : Nat)] w fun e w' => e = .returned (.int .i64 (raiseR tx no a b).1) ∧ TtAt w' g m c (raiseR tx no a b).2.1 (raiseR tx no a b).2.2 T ∧ OthersKept w w' (mine g m c) := by
  unfold raiseR
  by_cases h1 : a ≤ 4611686018427387904 ∧ b ≤ 4611686018427387904
  · rw [if_pos h1]; exact tx_raise w h a b h1.1 h1.2
  · rw [if_neg h1]
    exact (tx_raise_no w h a b (by omega)).mono fun e w1 ⟨he, hb⟩ => ⟨he, h.below hb, OthersKept.of_below hb⟩
theorem br_raise (h : RtAt w gR v tx no T) (a b : Nat) : Calls Try.prog 80 #[.pointer (some ⟨gR, 0, none⟩), .int .u64 (a : Nat), .int .u64 (b : Nat)] w fun e w' => e = .returned (.int .i64 (raiseR tx no a b).1) ∧ RtNow w w' gR v (raiseR tx no a b).2.1 (raiseR tx no a b).2.2 T := by
  unfold raiseR
  by_cases h1 : a ≤ 4611686018427387904 ∧ b ≤ 4611686018427387904
  · rw [if_pos h1]; exact rt_raise gR v tx no T a b w h h1.1 h1.2
  · rw [if_neg h1]
    exact (rt_raise_no gR a b w (by omega)).mono fun e w1 ⟨he, hb⟩ => ⟨he, by subst hb; exact RtNow.stay h (Below.refl _ _)⟩
end
/-- The program's table and the document's, side by side; all of it lies from block B on. -/
structure BothT (B : Nat) (w : World) (g m c gR : Nat) (v : Value) (tx no : Nat) (T : TT) : Prop where
  tt : TtAt w g m c tx no T
  rt : RtAt w gR v tx no T
  far : ¬ mine g m c gR
  vfar : ∀ k, v.ownBlock = some k → ¬ mine g m c k
  base : B ≤ g ∧ B ≤ m ∧ B ≤ c ∧ B ≤ gR
  vb : ∀ k, v.ownBlock = some k → B ≤ k
theorem BothT.below {B : Nat} {w w' : World} {g m c gR tx no : Nat} {v : Value} {T : TT} (h : BothT B w g m c gR v tx no T) (hb : Below w.heap.size w w') : BothT B w' g m c gR v tx no T :=
  ⟨h.tt.below hb, h.rt.below hb, h.far, h.vfar, h.base, h.vb⟩
theorem BothT.rt1 {B : Nat} {w w' : World} {g m c gR tx no : Nat} {v : Value} {T : TT} (h : BothT B w g m c gR v tx no T) (hk : OthersKept w w' (mine g m c)) : RtAt w' gR v tx no T := h.rt.kept hk h.far h.vfar
theorem BothT.step {B : Nat} {w w1 w2 : World} {g m c gR tx no tx' no' : Nat} {v : Value} {T T' : TT} (h : BothT B w g m c gR v tx no T) (h1 : TtAt w1 g m c tx' no' T') (hk : OthersKept w w1 (mine g m c)) (h2 : RtNow w1 w2 gR v tx' no' T') :
    (∃ v', BothT B w2 g m c gR v' tx' no' T') ∧ OthersKept w w2 (fun k => B ≤ k) := by
  obtain ⟨v', hr, hk2, hf⟩ := h2
  have hb := h.base
  have hl := h1.lt
  have hfar := h.far
  unfold mine at hfar
  have ht : TtAt w2 g m c tx' no' T' := h1.kept hk2 (fun e => by rcases e with e | e; exact hfar (.inl e.symm); exact h.vfar _ e (.inl rfl)) (fun e => by rcases e with e | e; exact hfar (.inr (.inl e.symm)); exact h.vfar _ e (.inr (.inl rfl))) (fun e => by rcases e with e | e; exact hfar (.inr (.inr e.symm)); exact h.vfar _ e (.inr (.inr rfl)))
  refine ⟨⟨v', ht, hr, h.far, fun k hk3 => ?_, h.base, fun k hk3 => ?_⟩, ?_⟩
  · rcases hf k hk3 with e | e
    · exact h.vfar k e
    · rintro (e2 | e2 | e2) <;> omega
  · rcases hf k hk3 with e | e
    · exact h.vb k e
    · omega
  · have e1 : OthersKept w w1 (fun k => B ≤ k) := ⟨hk.os, hk.tape, hk.output, hk.size, fun k hk' hp => hk.block k hk' (fun e => hp (by rcases e with e | e | e <;> omega))⟩
    have e2 : OthersKept w1 w2 (fun k => B ≤ k) := ⟨hk2.os, hk2.tape, hk2.output, hk2.size, fun k hk' hp => hk2.block k hk' (fun e => hp (by rcases e with e | e; omega; exact h.vb k e))⟩
    exact e1.trans e2 (fun _ _ h => h)

end Go.Proofs.Ytoeaakadpillnaa
