/- The frame but for a class of blocks. -/
import Derived.Test.YtoeaakadpillnaaRows
import Derived.Test.YtoeaakadpillnaaBlocks
import Derived.Test.YtoeaakadpillnaaOwn
import Derived.WalkKit
import Derived.WalkLawsBesides
import Derived.WalkSpells
import Derived.LoopTactic
import Derived.WalkMore
import Derived.LoopN
import Derived.Laws.BitsAllLaws
import Derived.Laws.IdiomStrings
import Derived.BigQuiet
import Derived.Deep.QuietTactic
import Derived.Deep.DeepCutAuto
import Derived.Deep.RegionHeld3
import Derived.Deep.DrawnRows
import Derived.Lib.Hide
import Derived.Outline
import Derived.Deep.DeepMust
import Derived.Handy
namespace Go.Proofs.Ytoeaakadpillnaa
open Go.RowKit
set_option linter.unusedVariables false
set_option linter.unusedSimpArgs false

/-- What was there is as it was, but for the blocks of a class. -/
structure OthersKept (w w' : World) (p : Nat → Prop) : Prop where
  os : w'.os = w.os
  tape : w'.tape = w.tape
  output : w'.output = w.output
  size : w.heap.size ≤ w'.heap.size
  block : ∀ k, k < w.heap.size → ¬ p k → w'.heap[k]? = w.heap[k]?
theorem OthersKept.of_below {w w' : World} {p : Nat → Prop} (h : Below w.heap.size w w') : OthersKept w w' p := ⟨h.os, h.tape, h.output, h.size, fun k hk _ => h.block k hk⟩
theorem OthersKept.of_grown {w w' : World} {p : Nat → Prop} {g : Nat} (h : w.grownBy w' (some g)) (hg : p g) : OthersKept w w' p :=
  ⟨h.os, h.tape, h.output, h.size, fun k hk hn => h.block k hk (fun e => by injection e with e; subst e; exact hn hg)⟩
theorem OthersKept.trans {w w1 w2 : World} {p q : Nat → Prop} (h : OthersKept w w1 p) (h2 : OthersKept w1 w2 q) (hq : ∀ k, k < w.heap.size → q k → p k) : OthersKept w w2 p :=
  ⟨h2.os.trans h.os, h2.tape.trans h.tape, h2.output.trans h.output, Nat.le_trans h.size h2.size, fun k hk hn => (h2.block k (Nat.lt_of_lt_of_le hk h.size) (fun e => hn (hq k hk e))).trans (h.block k hk hn)⟩
theorem OthersKept.below {w0 w w' : World} {p : Nat → Prop} (hb : Below w0.heap.size w0 w) (h : OthersKept w w' p) (hp : ∀ k, k < w0.heap.size → ¬ p k) : Below w0.heap.size w0 w' :=
  ⟨h.os.trans hb.os, h.tape.trans hb.tape, h.output.trans hb.output, Nat.le_trans hb.size h.size, fun k hk => (h.block k (Nat.lt_of_lt_of_le hk hb.size) (hp k hk)).trans (hb.block k hk)⟩

theorem OthersKept.owns {w w' : World} {p : Nat → Prop} {base n size : Nat} {e : TypeId} {v : Value} {xs : List Value} (hk : OthersKept w w' p) (h : w.ownsRow base e size v n xs) (hp : ∀ k, v.ownBlock = some k → ¬ p k) : w'.ownsRow base e size v n xs := by
  refine ⟨h.1, ?_⟩
  rcases h.2 with hn | ⟨g, cap, cur, rfl, hb, hgg, rest⟩
  · exact .inl hn
  · exact .inr ⟨g, cap, cur, rfl, hb, (hk.block g (blk_lt hgg) (hp g rfl)).trans hgg, rest⟩
theorem OthersKept.row {w w' : World} {p : Nat → Prop} {g : Nat} {zs : List UInt8} (hk : OthersKept w w' p) (h : RowAt w g zs) (hp : ¬ p g) : RowAt w' g zs := h.of_eq (hk.block g h.lt hp)
theorem OthersKept.heap {w w' : World} {p : Nat → Prop} {g : Nat} {o : Obj} (hk : OthersKept w w' p) (h : w.heap[g]? = some o) (hp : ¬ p g) : w'.heap[g]? = some o := (hk.block g (blk_lt h) hp).trans h
theorem OthersKept.cell {w w' : World} {p : Nat → Prop} {q : Addr} {v : Value} (hk : OthersKept w w' p) (h : w.cell? q = some v) (hp : ¬ p q.block) : w'.cell? q = some v := by
  have hb := hk.block q.block (cell_lt h) hp
  unfold World.cell? at h ⊢
  rw [hb]
  exact h


theorem OthersKept.then_below {w w1 w2 : World} {p : Nat → Prop} (h : OthersKept w w1 p) (hb : Below w1.heap.size w1 w2) : OthersKept w w2 p := h.trans (OthersKept.of_below (p := fun _ => False) hb) (fun _ _ h => absurd h id)
theorem OthersKept.fresh {w w1 w2 : World} {p : Nat → Prop} {x : Nat} (h : OthersKept w w1 p) (hg : w1.grownBy w2 (some x)) (hx : w.heap.size ≤ x) : OthersKept w w2 p :=
  h.trans (OthersKept.of_grown (p := fun k => k = x) hg rfl) (fun k hk h => by omega)

theorem OthersKept.base {w0 w w' : World} (hb : Below w0.heap.size w0 w) (h : OthersKept w w' (fun k => w0.heap.size ≤ k)) : Below w0.heap.size w0 w' := h.below hb (fun k hk => by omega)

end Go.Proofs.Ytoeaakadpillnaa
