/- Regions that draw their order and hold calls that make memory: one walk of the lexical order serves, for the class of worlds in which what was there is as it was. -/
import Derived.BigQuiet
import Derived.Deep.QuietTactic
import Derived.Below
import Derived.WalkKit
namespace Go.Proofs.Ytoeaakadpillnaa
open Go.RowKit

/-- A world in which all that lay below block B is as it was in w. -/
structure Ext (B : Nat) (w : World) where
  val : World
  below : Below B w val

instance (B : Nat) (w : World) : Nonempty (Ext B w) := ⟨⟨w, Below.refl B w⟩⟩

theorem wp_region_ext {P : Program} (B : Nat) {id : Nat} {Q : Exit → Act → World → Prop} {a : Act} {w : World} {l : List Oper} (hm : P.follows .mixedOrders = true) (hB : Region.lexB .any l.toArray = true)
    (h : wpQuiet P l.toArray (fun w' => ∃ x : Ext B w, w' = x.val) (fun a' => ∀ w', (∃ x : Ext B w, w' = x.val) → Q .normal a' w') l a) : (Code.region id l.toArray true).wp P Q a w :=
  wp_region_quiet (C := fun w' => ∃ x : Ext B w, w' = x.val) hm hB ⟨⟨_, (Below.refl B w).drew⟩, rfl⟩ (by simpa using h)

/-- A callee that makes memory of its own alone. -/
theorem ext_call {P : Program} {f : FuncId} {args : Array Value} {v : Value} {B : Nat} {w : World} (x : Ext B w) (hB : B ≤ w.heap.size)
    (h : Calls P f args x.val fun e w' => e = .returned v ∧ Below x.val.heap.size x.val w') : Calls P f args x.val fun e w'' => e = .returned v ∧ ∃ y : Ext B w, w'' = y.val :=
  h.mono fun _ _ ⟨he, hb⟩ => ⟨he, ⟨_, x.below.trans (hb.mono (Nat.le_trans hB x.below.size))⟩, rfl⟩

/-- A callee that leaves the world alone. -/
theorem ext_same {P : Program} {f : FuncId} {args : Array Value} {v : Value} {B : Nat} {w : World} (x : Ext B w)
    (h : Calls P f args x.val fun e w' => e = .returned v ∧ x.val = w') : Calls P f args x.val fun e w'' => e = .returned v ∧ ∃ y : Ext B w, w'' = y.val :=
  h.mono fun _ _ ⟨he, hb⟩ => ⟨he, x, hb.symm⟩

/-- A callee that only draws. -/
theorem ext_drew {P : Program} {f : FuncId} {args : Array Value} {v : Value} {B : Nat} {w : World} (x : Ext B w)
    (h : Calls P f args x.val fun e w' => e = .returned v ∧ ∃ m, w' = x.val.drewN m) : Calls P f args x.val fun e w'' => e = .returned v ∧ ∃ y : Ext B w, w'' = y.val :=
  h.mono fun _ _ ⟨he, m, hb⟩ => ⟨he, ⟨_, x.below.trans (by rw [hb]; exact ⟨rfl, rfl, rfl, Nat.le_refl _, fun _ _ => rfl⟩)⟩, rfl⟩

theorem ext_cell {B : Nat} {w : World} {b o : Nat} {v : Value} (h : w.cell? ⟨b, o, none⟩ = some v) (hb : b < B) : ∀ x : Ext B w, x.val.cell? ⟨b, o, none⟩ = some v :=
  fun x => (x.below.cell (p := ⟨b, o, none⟩) hb).trans h

theorem bcell {W w1 : World} (hb : Below W.heap.size W w1) : (∀ b o, b < W.heap.size → w1.cell? ⟨b, o, none⟩ = W.cell? ⟨b, o, none⟩) ∧ (∀ b o, b < W.heap.size → w1.frozen? ⟨b, o, none⟩ = W.frozen? ⟨b, o, none⟩) :=
  ⟨fun b o h => hb.cell (p := ⟨b, o, none⟩) h, fun b o h => hb.frozen (p := ⟨b, o, none⟩) h⟩
end Go.Proofs.Ytoeaakadpillnaa
