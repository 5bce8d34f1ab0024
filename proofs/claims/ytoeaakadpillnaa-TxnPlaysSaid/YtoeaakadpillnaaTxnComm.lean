/- chapter 23: a communication at the end of a region that draws its order. -/
import Derived.Test.YtoeaakadpillnaaRows
import Derived.Test.YtoeaakadpillnaaQuietTail
import Derived.Conc.LoneSelectN
import Derived.Conc.LoneSelect
import Derived.Conc.LoneCalls
import Derived.WalkKit
import Derived.WalkLawsBesides
import Derived.WalkSpells
import Derived.LoopTactic
import Derived.WalkMore
import Derived.LoopN
import Derived.Laws.BitsAllLaws
import Derived.Laws.IdiomStrings
import Derived.BigQuiet
import Derived.Deep.QuietTactic
import Derived.Deep.DeepCutAuto
import Derived.Deep.RegionHeld3
import Derived.Deep.DrawnRows
import Derived.Lib.Hide
import Derived.Outline
import Derived.Deep.DeepMust
import Derived.Handy
namespace Go.Proofs.Ytoeaakadpillnaa
open Go.RowKit
set_option linter.unusedVariables false
set_option linter.unusedSimpArgs false

open Go.Conc
section
variable {P : Program} {Q : Goroutine → World → Prop} {ops : Array Oper} {C : World → Prop} {md : Region.Mode} {b : Frame} {k : List Item} {cs : List Frame}

theorem lone_steps {g g' : Goroutine} {w w' : World} (h : Steps P (solo g w) (solo g' w')) (h' : LoneTo P Q g' w') : LoneTo P Q g w :=
  let ⟨g₂, w₂, hs, hq⟩ := h'; ⟨g₂, w₂, Steps.trans h hs, hq⟩

/-- A quiet operation comes up: the machine of one goes over it. -/
theorem lone_qOp {i : Nat} {rest : List Nat} {K : Act → Prop} {a : Act} {w : World} (hk : b.kind ≠ .early) (hC : C w) (h : qOp P ops C i K a)
    (next : ∀ a' w', C w' → K a' → LoneTo P Q (G (b.at a' (.inRegion ops rest :: k)) cs) w') : LoneTo P Q (G (b.at a (.inRegion ops (i :: rest) :: k)) cs) w := by
  unfold qOp at h
  cases ho : ops[i]? with
  | none =>
    simp only [ho] at h
    have hs := step_op_skip (P := P) (b := b) (a := a) (k := k) (cs := cs) (w := w) (ops := ops) (i := i) (rest := rest) (by simp [ho])
    simp only [ho, Option.bind_none, Act.put] at hs
    exact .step hs (next _ _ hC h)
  | some o =>
    simp only [ho] at h
    by_cases hw : Region.wanted o (yielded ops a.tmps) = true
    · simp only [hw, if_true] at h
      obtain ⟨v, h1, h2⟩ := h
      have h3 := h1 w hC
      unfold Oper.quietAt at h3
      cases hr : (execOp a.eval o).run P w with
      | halt x w' => rw [hr] at h3; exact h3.elim
      | ok nx w' =>
        rw [hr] at h3
        cases nx with
        | value u =>
          obtain ⟨e1, e2⟩ := h3
          subst e1 e2
          exact .step (step_solo_go rfl (stepG_value ho hw hk hr)) (next _ _ hC h2)
        | skip =>
          obtain ⟨e1, e2⟩ := h3
          subst e1 e2
          exact .step (step_solo_go rfl (stepG_none ho hw hk hr)) (next _ _ hC h2)
        | enter f args =>
          obtain ⟨e1, hc⟩ := h3
          subst e1
          obtain ⟨e, w'', fr, ⟨rfl, hC'⟩, hsteps, _, hleave⟩ := hc (b.at a (.inRegion ops (i :: rest) :: k) :: cs)
          have hg := stepG_op (P := P) (b := b) (k := k) (cs := cs) (w := w') (rest := rest) ho hw
          have henter : step P (lone (b.at a (.inRegion ops (i :: rest) :: k)) cs w') = .next (lone (Frame.enter P f args .normal) (b.at a (.inRegion ops (i :: rest) :: k) :: cs) w') :=
            step_lone_go (by rw [hg]; simp [stepG.apply, hr, Frame.at])
          have hfin : (b.at a (.inRegion ops (i :: rest) :: k)).finish v = b.at (a.put o.dst v) (.inRegion ops rest :: k) := by rw [Frame.finish_at, ho]; rfl
          refine lone_steps (.head henter (Steps.trans hsteps (.one ?_))) (next _ _ hC' h2)
          rw [← hfin]; exact step_leave_returned hleave
        | _ => exact h3.elim
    · simp only [hw] at h
      have hs := step_op_skip (P := P) (b := b) (a := a) (k := k) (cs := cs) (w := w) (ops := ops) (i := i) (rest := rest) (by simp [ho]; simpa using hw)
      simp only [ho, Option.bind_some] at hs
      exact .step hs (next _ _ hC h)

theorem lone_headQ {n g : Nat} {L : Array Bool → Act → Prop} (hk : b.kind ≠ .early) (next : ∀ listed a w t, C w → L listed a → LoneTo P Q (G (b.at a (.inRegion ops (Region.linearise.go md ops g t listed []) :: k)) cs) w) :
    ∀ (f : Nat) (listed : Array Bool) (a : Act) (w : World) (t : Nat), C w → headQ P md ops C n L f listed a → LoneTo P Q (G (b.at a (.inRegion ops (Region.linearise.go md ops (f + g) t listed []) :: k)) cs) w
  | 0, listed, a, w, t, hw, h => by rw [Nat.zero_add]; exact next _ _ _ _ hw h
  | f + 1, listed, a, w, t, hw, h => by
    rw [show f + 1 + g = (f + g) + 1 by omega]
    obtain ⟨h0, h1⟩ := h
    simp only [Region.linearise.go]
    change LoneTo P Q (G (b.at a (.inRegion ops (match (Region.ready md ops listed)[t % (Region.ready md ops listed).length]? with
      | some i => Region.linearise.go md ops (f + g) (t / (Region.ready md ops listed).length) (listed.setIfInBounds i true) [i]
      | none => [].reverse) :: k)) cs) w
    cases hi : (Region.ready md ops listed)[t % (Region.ready md ops listed).length]? with
    | none =>
      exfalso
      cases hr : Region.ready md ops listed with
      | nil => exact h0 hr
      | cons x xs =>
        rw [hr] at hi
        have hlt : t % (x :: xs).length < (x :: xs).length := Nat.mod_lt _ (by simp)
        simp at hi
        simp at hlt
        omega
    | some i =>
      simp only []
      rw [linearise_go_acc, List.reverse_singleton, List.singleton_append]
      exact lone_qOp hk hw (h1 i (List.mem_of_getElem? hi)).2 fun a' w' hw' h' => lone_headQ hk next f _ a' w' _ hw' h'

/-- A region that draws its order: all but the last operation are quiet in a class of worlds; the last one comes last. -/
theorem lone_draw_last {id : Nat} {a : Act} {w : World} {l : List Oper} (n : Nat) (hn : l.length = n + 1) (hk : b.kind ≠ .early) (hm : P.follows .mixedOrders = true) (hB : Region.lexTailB .any l.toArray n = true) (hC : C { w with drawn := w.drawn + 1 })
    (h : wpQuiet P l.toArray C (fun a' => ∀ w', C w' → LoneTo P Q (G (b.at a' (.inRegion l.toArray [n] :: k)) cs) w') (l.take n) a) :
    LoneTo P Q (G (b.at a (.code (.region id l.toArray true) :: k)) cs) w := by
  refine .step (step_region_draw (id := id)) ?_
  simp only [Region.schedule, hm, Bool.true_or, if_true]
  simp only [Region.lexTailB, Bool.and_eq_true, decide_eq_true_eq] at hB
  obtain ⟨⟨⟨⟨hsel, hn1⟩, hs⟩, hc⟩, hlex⟩ := hB
  have htl : (l.take n).length = n := by simp; omega
  have inv0 : HeadInv .any l.toArray n (Array.replicate l.toArray.size false) :=
    ⟨by simp, fun j oj _ hl => (by rw [getD_replicate_false] at hl; cases hl), fun t _ ht => getD_in (by simpa using ht) (getD_replicate_false _ _)⟩
  have hsz : l.toArray.size = n + 1 := by simpa using hn
  have H := headQ_lex (P := P) (C := C) (md := .any) (g := l.toArray.size - n) hsel hs hc hn1 (l.take n) 0 _ a (fun j hj => by
    have hj' : j < n := by rw [htl] at hj; exact hj
    simp [hj']) (by simpa using htl) inv0 (by rw [htl]; exact hlex) h
  rw [htl] at H
  unfold Region.linearise
  rw [hsz] at H ⊢
  rw [show n + 1 - n = 1 by omega] at H
  refine lone_headQ (g := 1) hk (fun listed a' w' t hw hL => ?_) n _ _ _ _ hC H
  obtain ⟨hq, hL⟩ := hL
  simp only [Region.seqB, Bool.and_eq_true, decide_eq_true_eq] at hq
  simp only [Region.linearise.go]
  change LoneTo P Q (G (b.at a' (.inRegion l.toArray (match (Region.ready .any l.toArray listed)[t % (Region.ready .any l.toArray listed).length]? with
    | some i => Region.linearise.go .any l.toArray 0 (t / (Region.ready .any l.toArray listed).length) (listed.setIfInBounds i true) [i]
    | none => [].reverse) :: k)) cs) w'
  rw [hq.1]
  simp only [List.length_singleton, Nat.mod_one, List.getElem?_cons_zero, Region.linearise.go, List.reverse_singleton]
  exact hL w' hw
end

end Go.Proofs.Ytoeaakadpillnaa
