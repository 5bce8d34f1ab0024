/- a walk of code with communications: wpN, its rules; a deferred builtin -/
import Derived.Test.YtienlhnbmobinaaRows
import Derived.Conc.LoneCalls
import Derived.Defers
import Derived.WalkKit
import Derived.WalkLawsBesides
import Derived.WalkSpells
import Derived.LoopTactic
import Derived.WalkMore
import Derived.LoopN
import Derived.Laws.BitsAllLaws
import Derived.Laws.IdiomStrings
import Derived.BigQuiet
import Derived.Deep.QuietTactic
import Derived.Deep.DeepCutAuto
import Derived.Deep.RegionHeld3
import Derived.Deep.DrawnRows
import Derived.Lib.Hide
import Derived.Outline
import Derived.Deep.DeepMust
import Derived.Handy
namespace Go.Proofs.Ytienlhnbmobinaa
open Go.RowKit
set_option linter.unusedVariables false
set_option linter.unusedSimpArgs false

open Go.Conc
/-- As Code.wp, for frames that are none of an early call: a communication can be walked. -/
def wpN (P : Program) (c : Code) (Q : Exit → Act → World → Prop) (a : Act) (w : World) : Prop :=
  ∀ (b : Frame) (k : List Item) (cs : List Frame), b.kind ≠ .early → ∃ e a' w', Q e a' w' ∧ Arrives P (lone (b.at a (.code c :: k)) cs w) b k cs e a' w'
section
variable {P : Program} {Q : Exit → Act → World → Prop} {a : Act} {w : World}
theorem wpN_of {c : Code} (h : c.wp P Q a w) : wpN P c Q a w := fun b k cs _ => h b k cs
theorem wpN_mono {c : Code} {Q' : Exit → Act → World → Prop} (h : wpN P c Q' a w) (hq : ∀ e a w, Q' e a w → Q e a w) : wpN P c Q a w :=
  fun b k cs hk => let ⟨e, a', w', q, r⟩ := h b k cs hk; ⟨e, a', w', hq _ _ _ q, r⟩
theorem wpN_skip (h : Q .normal a w) : wpN P .skip Q a w := wpN_of (wp_skip h)
theorem wpN_exit {id : Nat} (h : Q (.exit id) a w) : wpN P (.exit id) Q a w := wpN_of (wp_exit h)
theorem wpN_ret (h : Q .ret a w) : wpN P .ret Q a w := wpN_of (wp_ret h)
theorem wpN_cond {c : Operand} {x y : Code} {t : Bool} (hc : a.eval c = .bool t) (h : wpN P (if t then x else y) Q a w) : wpN P (.cond c x y) Q a w :=
  fun b k cs hk => let ⟨e, a', w', q, r⟩ := h b k cs hk; ⟨e, a', w', q, .of_steps (.one (step_cond hc)) r⟩
theorem wpN_seqN {x y : Code} (h : wpN P x (Exit.then (wpN P y Q) Q) a w) : wpN P (.seq x y) Q a w := by
  intro b k cs hk
  obtain ⟨e, a1, w1, hq, harr⟩ := h b (.code y :: k) cs hk
  have far : ∀ e, e ≠ .normal → Q e a1 w1 → Arrives P (lone (b.at a (.code x :: .code y :: k)) cs w) b (.code y :: k) cs e a1 w1 →
      ∃ e a' w', Q e a' w' ∧ Arrives P (lone (b.at a (.code (.seq x y) :: k)) cs w) b k cs e a' w' := fun e hne hq harr =>
    ⟨e, a1, w1, hq, .of_steps (.one step_seq) (.pass (x := .code y) rfl (fun _ _ => .inl hne) harr)⟩
  cases e with
  | normal =>
    obtain ⟨e2, a2, w2, hq2, harr2⟩ := hq b k cs hk
    exact ⟨e2, a2, w2, hq2, .of_steps (.head step_seq harr) harr2⟩
  | exit id => exact far _ (by simp) hq harr
  | goto l => exact far _ (by simp) hq harr
  | ret => exact far _ (by simp) hq harr
  | panic ch => exact far _ (by simp) hq harr
  | outgrown => exact far _ (by simp) hq harr
theorem wpN_seq {x y : Code} (h : x.wp P (Exit.then (wpN P y Q) Q) a w) : wpN P (.seq x y) Q a w := wpN_seqN (wpN_of h)
theorem wpN_block {id : Nat} {c : Code} (h : wpN P c (Exit.inBlock id Q) a w) : wpN P (.block id c) Q a w := by
  intro b k cs hk
  obtain ⟨e, a1, w1, hq, harr⟩ := h b (.inBlock id :: k) cs hk
  cases e with
  | normal => exact ⟨.normal, a1, w1, hq, .head step_block (Steps.trans harr (.one step_inBlock))⟩
  | exit id' =>
    by_cases hid : id' = id
    · simp only [Exit.inBlock, hid, if_true] at hq
      exact ⟨.normal, a1, w1, hq, .head step_block (harr k (by simp [exitTo, hid]))⟩
    · simp only [Exit.inBlock, hid, if_false] at hq
      refine ⟨.exit id', a1, w1, hq, fun k' hk => .head step_block (harr k' ?_)⟩
      have : (id == id') = false := by simp; exact fun h => hid h.symm
      simp [exitTo, this, hk]
  | goto l => exact ⟨_, a1, w1, hq, fun k' hk => .head step_block (harr k' (by simp [gotoIn, hk]))⟩
  | ret => exact ⟨_, a1, w1, hq, .of_steps (.one step_block) harr⟩
  | panic ch => exact ⟨_, a1, w1, hq, .of_steps (.one step_block) harr⟩
  | outgrown => exact ⟨_, a1, w1, hq, .of_steps (b := b) (k := k) (cs := cs) (e := .outgrown) (.one step_block) harr⟩
theorem wpN_loop {c : Code} (I : Act → World → Prop) (m : Act → World → Nat) (h0 : I a w)
    (round : ∀ a w, I a w → wpN P c (Exit.then (fun a' w' => I a' w' ∧ m a' w' < m a w) Q) a w) : wpN P (.loop c) Q a w := by
  intro b k cs hk
  have key : ∀ n a w, m a w = n → I a w →
      ∃ e a' w', Q e a' w' ∧ Arrives P (lone (b.at a (.code c :: .inLoop c :: k)) cs w) b k cs e a' w' := by
    intro n
    induction n using Nat.strongRecOn with
    | _ n ih =>
      intro a w hn hI
      obtain ⟨e, a1, w1, hq, harr⟩ := round a w hI b (.inLoop c :: k) cs hk
      have far : ∀ e, e ≠ .normal → Q e a1 w1 → Arrives P (lone (b.at a (.code c :: .inLoop c :: k)) cs w) b (.inLoop c :: k) cs e a1 w1 →
          ∃ e a' w', Q e a' w' ∧ Arrives P (lone (b.at a (.code c :: .inLoop c :: k)) cs w) b k cs e a' w' := fun e hne hq harr =>
        ⟨e, a1, w1, hq, .pass (x := .inLoop c) rfl (fun _ _ => .inl hne) harr⟩
      cases e with
      | normal =>
        obtain ⟨hI1, hlt⟩ := hq
        obtain ⟨e2, a2, w2, hq2, harr2⟩ := ih (m a1 w1) (hn ▸ hlt) a1 w1 rfl hI1
        exact ⟨e2, a2, w2, hq2, .of_steps (Steps.trans harr (.one step_inLoop)) harr2⟩
      | exit id => exact far _ (by simp) hq harr
      | goto l => exact far _ (by simp) hq harr
      | ret => exact far _ (by simp) hq harr
      | panic ch => exact far _ (by simp) hq harr
      | outgrown => exact far _ (by simp) hq harr
  obtain ⟨e, a', w', hq, harr⟩ := key _ a w rfl h0
  exact ⟨e, a', w', hq, .of_steps (.one step_loop) harr⟩
/-- A piece that is walked by the machine's own steps. -/
theorem wpN_lone {c : Code} (h : ∀ (b : Frame) (k : List Item) (cs : List Frame), b.kind ≠ .early → LoneTo P (fun g' w' => ∃ a', g' = G (b.at a' k) cs ∧ Q .normal a' w') (G (b.at a (.code c :: k)) cs) w) : wpN P c Q a w := by
  intro b k cs hk
  obtain ⟨g', w', hs, a', rfl, hq⟩ := h b k cs hk
  exact ⟨.normal, a', w', hq, hs⟩
theorem calls_of_wpN {f : FuncId} {fn : Func} {c : Code} {args : Array Value} {R : Ending → World → Prop} (hf : P.funcs[f]? = some fn) (hb : fn.body = some c)
    (h : wpN P c (bodyPost P fn R) { tmps := args ++ Array.replicate (fn.ntmps - args.size) undef, defers := [] } w) : Calls P f args w R := by
  intro cs
  have henter : Frame.enter P f args .normal = (base f).at { tmps := args ++ Array.replicate (fn.ntmps - args.size) undef, defers := [] } [.code c] := by
    simp [Frame.enter, Frame.at, hf, hb, base]
  obtain ⟨e, a', w', hq, harr⟩ := h (base f) [] cs (by simp [base])
  rw [← henter] at harr
  cases e with
  | normal =>
    obtain ⟨hd, v, hr, hR⟩ := hq
    exact ⟨.returned v, w', _, hR, Steps.trans harr (.one step_end), rfl, rfl, hd, rfl, fn, hf, hr⟩
  | ret =>
    obtain ⟨hd, v, hr, hR⟩ := hq
    obtain ⟨todo, hs⟩ := harr
    exact ⟨.returned v, w', _, hR, hs, rfl, rfl, hd, rfl, fn, hf, hr⟩
  | panic chain =>
    obtain ⟨hd, hR⟩ := hq
    obtain ⟨todo, hs⟩ := harr
    exact ⟨.panicked chain, w', _, hR, hs, rfl, rfl, hd, fn, hf⟩
  | exit id => exact hq.elim
  | goto l => exact hq.elim
  | outgrown => exact ⟨.outgrown, w', base f, hq, harr.resolve_left (by simp [base]), rfl, trivial⟩
theorem calls_of_wpN_defers {f : FuncId} {fn : Func} {c : Code} {args : Array Value} {R : Ending → World → Prop} (hf : P.funcs[f]? = some fn) (hb : fn.body = some c)
    (h : wpN P c (bodyPostD P fn R) { tmps := args ++ Array.replicate (fn.ntmps - args.size) undef, defers := [] } w) : Calls P f args w R := by
  intro cs
  have henter : Frame.enter P f args .normal = (base f).at { tmps := args ++ Array.replicate (fn.ntmps - args.size) undef, defers := [] } [.code c] := by
    simp [Frame.enter, Frame.at, hf, hb, base]
  obtain ⟨e, a', w', hq, harr⟩ := h (base f) [] cs (by simp [base])
  rw [← henter] at harr
  cases e with
  | normal =>
    obtain ⟨e', w'', fr', hR, hs, hfn, hl⟩ := leaves_steps (P := P) (fn := fn) (tmps := a'.tmps) (R := R) a'.defers (.returning) w' { (base f).at a' [] with mode := .returning } cs rfl rfl rfl hf rfl hq
    exact ⟨e', w'', fr', hR, Comes.of_steps (Steps.trans harr (.one step_end)) hs, hfn, hl⟩
  | ret =>
    obtain ⟨todo, hs0⟩ := harr
    obtain ⟨e', w'', fr', hR, hs, hfn, hl⟩ := leaves_steps (P := P) (fn := fn) (tmps := a'.tmps) (R := R) a'.defers (.returning) w' { (base f).at a' todo with mode := .returning } cs rfl rfl rfl hf rfl hq
    exact ⟨e', w'', fr', hR, Comes.of_steps hs0 hs, hfn, hl⟩
  | panic chain =>
    obtain ⟨todo, hs0⟩ := harr
    obtain ⟨e', w'', fr', hR, hs, hfn, hl⟩ := leaves_steps (P := P) (fn := fn) (tmps := a'.tmps) (R := R) a'.defers (.panicking chain) w' { (base f).at a' todo with mode := .panicking chain } cs rfl rfl rfl hf rfl hq
    exact ⟨e', w'', fr', hR, Comes.of_steps hs0 hs, hfn, hl⟩
  | exit id => exact hq.elim
  | goto l => exact hq.elim
  | outgrown => exact ⟨.outgrown, w', base f, hq, harr.resolve_left (by simp [base]), rfl, trivial⟩
end
/-- A frame on its way out makes its next deferred call, of a builtin that yields at once. -/
theorem step_defer_value {P : Program} {fr : Frame} {cs : List Frame} {w w' : World} {d : Deferred} {ds : List Deferred} {u : Value} (hm : fr.mode = .returning) (hd : fr.defers = d :: ds)
    (hc : ∀ r, d.target ≠ .collected r) (hi : (invoke d.target d.args).run P w = .ok (.value u) w') : step P (lone fr cs w) = .next (lone { fr with defers := ds } cs w') := by
  obtain ⟨t, a⟩ := d
  simp only at hi hc
  refine step_lone_go ?_
  cases t with
  | collected r => exact absurd rfl (hc r)
  | _ => simp [stepG, unwind, callDeferred, hm, hd, hi]
/-- What is asked at the end of a body that deferred one call of a builtin. -/
def postV (P : Program) (fn : Func) (R : Ending → World → Prop) : Exit → Act → World → Prop
  | .normal, a, w | .ret, a, w => ∃ d u w1 v, a.defers = [d] ∧ (∀ r, d.target ≠ .collected r) ∧ (invoke d.target d.args).run P w = .ok (.value u) w1 ∧ (results fn a.tmps).run P w1 = .ok v w1 ∧ R (.returned v) w1
  | _, _, _ => False
theorem calls_of_wpN_V {P : Program} {w : World} {f : FuncId} {fn : Func} {c : Code} {args : Array Value} {R : Ending → World → Prop} (hf : P.funcs[f]? = some fn) (hb : fn.body = some c)
    (h : wpN P c (postV P fn R) { tmps := args ++ Array.replicate (fn.ntmps - args.size) undef, defers := [] } w) : Calls P f args w R := by
  intro cs
  have henter : Frame.enter P f args .normal = (base f).at { tmps := args ++ Array.replicate (fn.ntmps - args.size) undef, defers := [] } [.code c] := by
    simp [Frame.enter, Frame.at, hf, hb, base]
  obtain ⟨e, a', w', hq, harr⟩ := h (base f) [] cs (by simp [base])
  rw [← henter] at harr
  have done : ∀ todo, Steps P (lone (Frame.enter P f args .normal) cs w) (lone { (base f).at a' todo with mode := .returning } cs w') →
      (∃ d u w1 v, a'.defers = [d] ∧ (∀ r, d.target ≠ .collected r) ∧ (invoke d.target d.args).run P w' = .ok (.value u) w1 ∧ (results fn a'.tmps).run P w1 = .ok v w1 ∧ R (.returned v) w1) →
      ∃ e w' fr, R e w' ∧ Comes P (lone (Frame.enter P f args .normal) cs w) (lone fr cs w') e ∧ fr.fn = f ∧ fr.leaving P w' e := by
    rintro todo hs ⟨d, u, w1, v, hd, hc, hi, hr, hR⟩
    have h1 := step_defer_value (fr := { (base f).at a' todo with mode := .returning }) (cs := cs) rfl hd hc hi
    exact ⟨.returned v, w1, _, hR, Steps.trans hs (.one h1), rfl, rfl, rfl, rfl, fn, hf, hr⟩
  cases e with
  | normal => exact done [] (Steps.trans harr (.one step_end)) hq
  | ret =>
    obtain ⟨todo, hs⟩ := harr
    exact done todo hs hq
  | panic chain => exact hq.elim
  | exit id => exact hq.elim
  | goto l => exact hq.elim
  | outgrown => exact hq.elim

end Go.Proofs.Ytienlhnbmobinaa
