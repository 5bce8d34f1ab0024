/- The document's area: New, the frame but for a class of blocks, and steps of its cells. -/
import Derived.Test.YtlpfilpijiglpaaRows
import Derived.Test.YtlpfilpijiglpaaRefArea
import Derived.Test.YtlpfilpijiglpaaSlotLaw
import Derived.WalkKit
import Derived.WalkLawsBesides
import Derived.WalkSpells
import Derived.LoopTactic
import Derived.WalkMore
import Derived.LoopN
import Derived.Laws.BitsAllLaws
import Derived.Laws.IdiomStrings
import Derived.BigQuiet
import Derived.Deep.QuietTactic
import Derived.Deep.DeepCutAuto
import Derived.Deep.RegionHeld3
import Derived.Deep.DrawnRows
import Derived.Lib.Hide
import Derived.Outline
import Derived.Deep.DeepMust
import Derived.Handy
namespace Go.Proofs.Ytlpfilpijiglpaa
open Go.RowKit
set_option linter.unusedVariables false
set_option linter.unusedSimpArgs false

/-- What was there is as it was, but for the blocks of a class. -/
structure OthersKept (w w' : World) (p : Nat → Prop) : Prop where
  os : w'.os = w.os
  tape : w'.tape = w.tape
  output : w'.output = w.output
  size : w.heap.size ≤ w'.heap.size
  block : ∀ k, k < w.heap.size → ¬ p k → w'.heap[k]? = w.heap[k]?
theorem OthersKept.of_below {w w' : World} {p : Nat → Prop} (h : Below w.heap.size w w') : OthersKept w w' p := ⟨h.os, h.tape, h.output, h.size, fun k hk _ => h.block k hk⟩
theorem OthersKept.of_grown {w w' : World} {p : Nat → Prop} {g : Nat} (h : w.grownBy w' (some g)) (hg : p g) : OthersKept w w' p :=
  ⟨h.os, h.tape, h.output, h.size, fun k hk hn => h.block k hk (fun e => by injection e with e; subst e; exact hn hg)⟩
theorem OthersKept.trans {w w1 w2 : World} {p q : Nat → Prop} (h : OthersKept w w1 p) (h2 : OthersKept w1 w2 q) (hq : ∀ k, k < w.heap.size → q k → p k) : OthersKept w w2 p :=
  ⟨h2.os.trans h.os, h2.tape.trans h.tape, h2.output.trans h.output, Nat.le_trans h.size h2.size, fun k hk hn => (h2.block k (Nat.lt_of_lt_of_le hk h.size) (fun e => hn (hq k hk e))).trans (h.block k hk hn)⟩
theorem OthersKept.below {w0 w w' : World} {p : Nat → Prop} (hb : Below w0.heap.size w0 w) (h : OthersKept w w' p) (hp : ∀ k, k < w0.heap.size → ¬ p k) : Below w0.heap.size w0 w' :=
  ⟨h.os.trans hb.os, h.tape.trans hb.tape, h.output.trans hb.output, Nat.le_trans hb.size h.size, fun k hk => (h.block k (Nat.lt_of_lt_of_le hk hb.size) (hp k hk)).trans (hb.block k hk)⟩
/-- The blocks of the document's area. -/
def refOwn (g gB : Nat) (v : Value) (k : Nat) : Prop := k = g ∨ k = gB ∨ v.ownBlock = some k

theorem refNew_no (n : Int) (w : World) (hn : n < 16 ∨ 4096 < n) :
    Calls Try.prog 25 #[.int .i64 n] w fun e w' => e = .returned (.pointer none) ∧ Below w.heap.size w w' := by
  rcases hn with h | h
  · go_enter Try.func25, Try.ntmps25
    go_wp2_with fail
    go_ret
    exact ⟨rfl, Below.refl _ _⟩
  · go_enter Try.func25, Try.ntmps25
    go_wp2_with fail
    go_ret
    exact ⟨rfl, Below.refl _ _⟩

set_option maxHeartbeats 1000000 in
set_option maxRecDepth 100000 in
theorem refNew_yes (n : Nat) (w : World) (h1 : 16 ≤ n) (h2 : n ≤ 4096) :
    Calls Try.prog 25 #[.int .i64 n] w fun e w' => ∃ g gB, e = .returned (.pointer (some ⟨g, 0, none⟩)) ∧ w.heap.size ≤ g ∧ w.heap.size ≤ gB ∧ RefAt w' g gB n (.slice none 0 0) (Ar.new n) ∧ Below w.heap.size w w' := by
  have i1 : ¬ (n : Int) < 16 := by omega
  have i2 : ¬ 4096 < (n : Int) := by omega
  go_enter Try.func25, Try.ntmps25
  go_wp2_with fail
  refine upon_make _ 38 5 n Try.underlying38 (by kernel_rfl) (by kernel_rfl) (by kernel_rfl) (by omega) (fun W hr hb => ?_)
  have hlt := hr.lt
  have hA : Hid (RefAt (W.alloc (.cells #[.slice (some ⟨w.heap.size, 0, none⟩) n n, .int .i64 n, .slice none 0 0] 88)) W.heap.size w.heap.size n (.slice none 0 0) (Ar.new n)) :=
    ⟨by show _ = some (Obj.cells #[.slice _ (List.replicate n (0 : UInt8)).length n, _, _] _ _); rw [List.length_replicate]; exact heap_alloc_new W _, hr.below ((Below.refl _ _).alloc (Nat.le_refl _) _), World.ownsRow_nil _ _ _ _, by omega, (fun k h => by cases h), by simp [Ar.new]⟩
  have hb2 := Lib.hid (hb.alloc hb.size (.cells #[.slice (some ⟨w.heap.size, 0, none⟩) n n, .int .i64 n, .slice none 0 0] 88))
  have hge := hb.size
  clear hb hr
  go_wp2_with fail
  go_ret
  exact ⟨_, _, rfl, hge, Nat.le_refl _, hA.out, hb2.out⟩

theorem putAt_step (B : List UInt8) (k i : Nat) (t : List UInt8) (hi : i < t.length) (hk : k + t.length ≤ B.length) : (putAt B k (t.take i)).set (k + i) t[i] = putAt B k (t.take (i + 1)) := by
  have hl1 : (t.take i).length = i := by simp; omega
  have hl2 : (t.take (i + 1)).length = i + 1 := by simp; omega
  apply List.ext_getElem?
  intro j
  rw [List.getElem?_set, putAt_get _ _ _ (by omega), putAt_get _ _ _ (by omega), hl1, hl2, putAt_len (by omega)]
  by_cases h : k + i = j
  · subst h
    rw [if_pos rfl, if_pos (by omega), if_neg (by omega), if_pos (by omega), show k + i - k = i by omega, List.getElem?_take_of_lt (by omega), List.getElem?_eq_getElem hi]
  · rw [if_neg h]
    by_cases h1 : j < k
    · rw [if_pos h1, if_pos h1]
    · rw [if_neg h1, if_neg h1]
      by_cases h2 : j < k + i
      · rw [if_pos h2, if_pos (by omega), List.getElem?_take_of_lt (by omega), List.getElem?_take_of_lt (by omega)]
      · rw [if_neg h2, if_neg (by omega)]
theorem RefAt.set_low {w : World} {g gB cap : Nat} {v : Value} {a : Ar} (h : RefAt w g gB cap v a) (n : Nat) : RefAt (w.setCell ⟨g, 1, none⟩ (.int .i64 n)) g gB cap v { a with low := n } := by
  refine ⟨?_, h.row.of_eq (Below.heap_setCell w ⟨g, 1, none⟩ _ gB (by simp; exact Ne.symm h.ne)), ?_, h.ne, h.far, h.room⟩
  · have := blk_set h.own 1 (.int .i64 n)
    simpa using this
  · refine h.dir.kept (row := some g) (grown_set (grown_refl _ _)) ?_
    cases hv : v.ownBlock with
    | none => exact .inl rfl
    | some k => exact .inr (by simp; exact (h.far k hv).1)
theorem RefAt.set_byte {w : World} {g gB cap : Nat} {v : Value} {a : Ar} (h : RefAt w g gB cap v a) (k : Nat) (u : UInt8) (hk : k < a.B.length) : RefAt (w.setCell ⟨gB, k, none⟩ (.int .u8 (u.toNat : Int))) g gB cap v { a with B := a.B.set k u } := by
  refine ⟨?_, h.row.set k u hk, ?_, h.ne, h.far, by simpa using h.room⟩
  · show _ = some (Obj.cells #[.slice _ (a.B.set k u).length cap, _, _] _ _)
    rw [List.length_set]
    exact set_keep h.own h.ne
  · refine h.dir.kept (row := some gB) (grown_set (grown_refl _ _)) ?_
    cases hv : v.ownBlock with
    | none => exact .inl rfl
    | some k => exact .inr (by simp; exact (h.far k hv).2)

end Go.Proofs.Ytlpfilpijiglpaa
