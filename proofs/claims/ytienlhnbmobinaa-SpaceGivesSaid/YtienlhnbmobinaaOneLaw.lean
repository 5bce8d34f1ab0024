/- ref11: what get.one reads -/
import Derived.Test.YtienlhnbmobinaaRows
import Derived.Test.YtienlhnbmobinaaRefOne
import Derived.Test.YtienlhnbmobinaaRefGet
import Derived.Test.YtienlhnbmobinaaRefOnly
import Derived.Test.YtienlhnbmobinaaOpPlain
import Derived.Test.YtienlhnbmobinaaOpPart
import Derived.Test.YtienlhnbmobinaaOpLaw
import Derived.Test.YtienlhnbmobinaaOpIn
import Derived.Test.YtienlhnbmobinaaOpWrite
import Derived.Test.YtienlhnbmobinaaOpEnc
import Derived.Test.YtienlhnbmobinaaTextsP
import Derived.Test.YtienlhnbmobinaaPlains
import Derived.Test.YtienlhnbmobinaaBase
import Derived.WalkKit
import Derived.WalkLawsBesides
import Derived.WalkSpells
import Derived.LoopTactic
import Derived.WalkMore
import Derived.LoopN
import Derived.Laws.BitsAllLaws
import Derived.Laws.IdiomStrings
import Derived.BigQuiet
import Derived.Deep.QuietTactic
import Derived.Deep.DeepCutAuto
import Derived.Deep.RegionHeld3
import Derived.Deep.DrawnRows
import Derived.Lib.Hide
import Derived.Outline
import Derived.Deep.DeepMust
import Derived.Handy
namespace Go.Proofs.Ytienlhnbmobinaa
open Go.RowKit
set_option linter.unusedVariables false
set_option linter.unusedSimpArgs false

/-- What is read, told twice. -/
def Rel {α : Type} (x : Option (α × List UInt8)) (y : α × Gd) (s : List UInt8) : Prop := (y.2.bad = false → y.2.s = s ∧ y.2.at_ ≤ s.length ∧ x = some (y.1, s.drop y.2.at_)) ∧ (y.2.bad = true → x = none)
theorem num_rel (g : Gd) (k : Nat) (s : List UInt8) (h : g.bad = false) (hs : g.s = s) (ha : g.at_ ≤ s.length) : Rel (numO k (s.drop g.at_)) (g.num k) s := by
  subst hs
  rw [numO_at ha]
  unfold Gd.num
  rw [h]
  by_cases hc : g.at_ + k ≤ g.s.length
  · rw [if_pos hc, if_pos (by simpa using hc)]
    exact ⟨fun _ => ⟨rfl, hc, rfl⟩, fun h => by cases h⟩
  · rw [if_neg hc, if_neg (by simpa using hc)]
    exact ⟨fun h => by (cases h), fun _ => rfl⟩
theorem num_bad (g : Gd) (k : Nat) (h : g.bad = true) : (g.num k).2.bad = true := by
  unfold Gd.num
  rw [h]
  simp
theorem text_bad (g : Gd) (h : g.bad = true) : g.text.2.bad = true := by
  unfold Gd.text
  rw [num_bad g 2 h]
  simp
theorem rows_bad (k : Nat) (g : Gd) (h : g.bad = true) : (Gd.rows k g).2.bad = true := by
  cases k with
  | zero => exact h
  | succ k => rw [Gd.rows, if_pos h]; exact h
theorem text_rel (g : Gd) (s : List UInt8) (h : g.bad = false) (hs : g.s = s) (ha : g.at_ ≤ s.length) : Rel (textO (s.drop g.at_)) g.text s := by
  subst hs
  rw [textO_at ha]
  unfold Gd.text Gd.num
  rw [h]
  by_cases hc : g.at_ + 2 ≤ g.s.length
  · have e : (decide (g.at_ + 2 ≤ g.s.length) && !false) = true := by simpa using hc
    rw [if_pos e]
    simp only
    by_cases hd : g.at_ + 2 + rdNum g.s g.at_ 2 ≤ g.s.length
    · rw [if_pos ⟨hc, hd⟩, if_pos (by simpa using hd)]
      exact ⟨fun _ => ⟨rfl, hd, rfl⟩, fun h => by cases h⟩
    · rw [if_neg (fun h => hd h.2), if_neg (by simpa using hd)]
      exact ⟨fun h => by (cases h), fun _ => rfl⟩
  · have e : ¬ (decide (g.at_ + 2 ≤ g.s.length) && !false) = true := by simpa using hc
    rw [if_neg e, if_neg (fun h => hc h.1)]
    simp only
    rw [if_neg (by simp)]
    exact ⟨fun h => by (cases h), fun _ => rfl⟩
theorem rows_rel (s : List UInt8) : ∀ (k : Nat) (g : Gd), g.bad = false → g.s = s → g.at_ ≤ s.length → Rel (rowsO k (s.drop g.at_)) (Gd.rows k g) s := by
  intro k
  induction k with
  | zero =>
    intro g h hs ha
    exact ⟨fun _ => ⟨hs, ha, rfl⟩, fun hb => by rw [Gd.rows] at hb; simp only at hb; rw [h] at hb; cases hb⟩
  | succ k ih =>
    intro g h hs ha
    obtain ⟨t1, t2⟩ := text_rel g s h hs ha
    rw [Gd.rows, if_neg (by rw [h]; decide), rowsO]
    cases hb : g.text.2.bad with
    | true =>
      rw [t2 hb]
      exact ⟨fun hx => (by rw [rows_bad k _ hb] at hx; cases hx), fun _ => rfl⟩
    | false =>
      obtain ⟨u1, u2, u3⟩ := t1 hb
      obtain ⟨v1, v2⟩ := ih g.text.2 hb u1 u2
      rw [u3]
      simp only [Option.bind_some]
      refine ⟨fun hx => ?_, fun hx => ?_⟩
      · obtain ⟨x1, x2, x3⟩ := v1 hx
        exact ⟨x1, x2, by rw [x3]; rfl⟩
      · rw [v2 hx]
        rfl
theorem Rel.of {α : Type} {x : Option (α × List UInt8)} {y : α × Gd} {s : List UInt8} (h : Rel x y s) (hb : y.2.bad = false) : y.2.s = s ∧ y.2.at_ ≤ s.length ∧ x = some (y.1, s.drop y.2.at_) := h.1 hb
theorem Rel.none {α β : Type} {x : Option (α × List UInt8)} {y : α × Gd} {z : β × Gd} {s : List UInt8} {f : α × List UInt8 → Option (β × List UInt8)} (h : Rel x y s) (hb : y.2.bad = true) (hz : z.2.bad = true) : Rel (x.bind f) z s := by
  rw [h.2 hb]
  exact ⟨fun h => (by rw [hz] at h; cases h), fun _ => rfl⟩
theorem parts_rel (k pg : Nat) (g : Gd) (s : List UInt8) (h : g.bad = false) (hs : g.s = s) (ha : g.at_ ≤ s.length) : Rel (foldO (partsOf k) ⟨k, pg, 0, 0, [], [], 0, 0, 0⟩ (s.drop g.at_)) (Gd.parts k pg g) s := by
  by_cases hk : 1 ≤ k ∧ k ≤ 8
  · rcases kinds hk with rfl | rfl | rfl | rfl | rfl | rfl | rfl | rfl
    all_goals
      simp only [partsOf, Gd.parts, foldO, Part.rdo, Option.map_eq_bind, Option.bind_assoc, Function.comp_def]
    · have R0 := num_rel g 1 s h hs ha
      cases b0 : ((g).num 1).2.bad with
      | true => exact R0.none b0 (num_bad _ _ (num_bad _ _ b0))
      | false =>
        obtain ⟨u0, v0, w0⟩ := R0.of b0
        rw [w0]
        simp only [Option.bind_some]
        have R1 := num_rel ((g).num 1).2 1 s b0 u0 v0
        cases b1 : ((((g).num 1).2).num 1).2.bad with
        | true => exact R1.none b1 (num_bad _ _ b1)
        | false =>
          obtain ⟨u1, v1, w1⟩ := R1.of b1
          rw [w1]
          simp only [Option.bind_some]
          have R2 := num_rel ((((g).num 1).2).num 1).2 4 s b1 u1 v1
          cases b2 : ((((((g).num 1).2).num 1).2).num 4).2.bad with
          | true => exact R2.none b2 b2
          | false =>
            obtain ⟨u2, v2, w2⟩ := R2.of b2
            rw [w2]
            exact ⟨fun _ => ⟨u2, v2, rfl⟩, fun hx => (by rw [b2] at hx; cases hx)⟩
    · have R0 := num_rel g 2 s h hs ha
      cases b0 : ((g).num 2).2.bad with
      | true => exact R0.none b0 (text_bad _ b0)
      | false =>
        obtain ⟨u0, v0, w0⟩ := R0.of b0
        rw [w0]
        simp only [Option.bind_some]
        have R1 := text_rel ((g).num 2).2 s b0 u0 v0
        cases b1 : ((((g).num 2).2).text).2.bad with
        | true => exact R1.none b1 b1
        | false =>
          obtain ⟨u1, v1, w1⟩ := R1.of b1
          rw [w1]
          exact ⟨fun _ => ⟨u1, v1, rfl⟩, fun hx => (by rw [b1] at hx; cases hx)⟩
    · have R0 := num_rel g 2 s h hs ha
      cases b0 : ((g).num 2).2.bad with
      | true => exact R0.none b0 (text_bad _ b0)
      | false =>
        obtain ⟨u0, v0, w0⟩ := R0.of b0
        rw [w0]
        simp only [Option.bind_some]
        have R1 := text_rel ((g).num 2).2 s b0 u0 v0
        cases b1 : ((((g).num 2).2).text).2.bad with
        | true => exact R1.none b1 b1
        | false =>
          obtain ⟨u1, v1, w1⟩ := R1.of b1
          rw [w1]
          exact ⟨fun _ => ⟨u1, v1, rfl⟩, fun hx => (by rw [b1] at hx; cases hx)⟩
    · have R0 := num_rel g 2 s h hs ha
      cases b0 : ((g).num 2).2.bad with
      | true => exact R0.none b0 b0
      | false =>
        obtain ⟨u0, v0, w0⟩ := R0.of b0
        rw [w0]
        exact ⟨fun _ => ⟨u0, v0, rfl⟩, fun hx => (by rw [b0] at hx; cases hx)⟩
    · have R0 := num_rel g 2 s h hs ha
      cases b0 : ((g).num 2).2.bad with
      | true => exact R0.none b0 b0
      | false =>
        obtain ⟨u0, v0, w0⟩ := R0.of b0
        rw [w0]
        exact ⟨fun _ => ⟨u0, v0, rfl⟩, fun hx => (by rw [b0] at hx; cases hx)⟩
    · have R0 := num_rel g 2 s h hs ha
      cases b0 : ((g).num 2).2.bad with
      | true => exact R0.none b0 (rows_bad _ _ b0)
      | false =>
        obtain ⟨u0, v0, w0⟩ := R0.of b0
        rw [w0]
        simp only [Option.bind_some]
        have R1 := rows_rel s (g.num 2).1 ((g).num 2).2 b0 u0 v0
        cases b1 : (Gd.rows (g.num 2).1 ((g).num 2).2).2.bad with
        | true => exact R1.none b1 b1
        | false =>
          obtain ⟨u1, v1, w1⟩ := R1.of b1
          rw [w1]
          exact ⟨fun _ => ⟨u1, v1, rfl⟩, fun hx => (by rw [b1] at hx; cases hx)⟩
    · have R0 := num_rel g 4 s h hs ha
      cases b0 : ((g).num 4).2.bad with
      | true => exact R0.none b0 b0
      | false =>
        obtain ⟨u0, v0, w0⟩ := R0.of b0
        rw [w0]
        exact ⟨fun _ => ⟨u0, v0, rfl⟩, fun hx => (by rw [b0] at hx; cases hx)⟩
    · have R0 := num_rel g 2 s h hs ha
      cases b0 : ((g).num 2).2.bad with
      | true => exact R0.none b0 (text_bad _ (num_bad _ _ b0))
      | false =>
        obtain ⟨u0, v0, w0⟩ := R0.of b0
        rw [w0]
        simp only [Option.bind_some]
        have R1 := num_rel ((g).num 2).2 2 s b0 u0 v0
        cases b1 : ((((g).num 2).2).num 2).2.bad with
        | true => exact R1.none b1 (text_bad _ b1)
        | false =>
          obtain ⟨u1, v1, w1⟩ := R1.of b1
          rw [w1]
          simp only [Option.bind_some]
          have R2 := text_rel ((((g).num 2).2).num 2).2 s b1 u1 v1
          cases b2 : ((((((g).num 2).2).num 2).2).text).2.bad with
          | true => exact R2.none b2 b2
          | false =>
            obtain ⟨u2, v2, w2⟩ := R2.of b2
            rw [w2]
            exact ⟨fun _ => ⟨u2, v2, rfl⟩, fun hx => (by rw [b2] at hx; cases hx)⟩
  · have : partsOf k = [] := by
      unfold partsOf
      split <;> first | rfl | omega
    rw [this, parts_else k pg g hk]
    exact ⟨fun _ => ⟨hs, ha, rfl⟩, fun hb => (by simp only at hb; rw [h] at hb; cases hb)⟩

theorem one_rel (g : Gd) (s : List UInt8) (h : g.bad = false) (hs : g.s = s) (ha : g.at_ ≤ s.length) : Rel (oneO (s.drop g.at_)) g.one s := by
  unfold oneO Gd.one
  have R0 := num_rel g 1 s h hs ha
  have pb : ∀ k pg (q : Gd), q.bad = true → (Gd.parts k pg q).2.bad = true := by
    intro k pg q hq
    unfold Gd.parts
    split
    · exact num_bad _ _ (num_bad _ _ (num_bad _ _ hq))
    · exact text_bad _ (num_bad _ _ hq)
    · exact text_bad _ (num_bad _ _ hq)
    · exact num_bad _ _ hq
    · exact num_bad _ _ hq
    · exact rows_bad _ _ (num_bad _ _ hq)
    · exact num_bad _ _ hq
    · exact text_bad _ (num_bad _ _ (num_bad _ _ hq))
    · exact hq
  cases b0 : (g.num 1).2.bad with
  | true => exact R0.none b0 (pb _ _ _ (num_bad _ _ b0))
  | false =>
    obtain ⟨u0, v0, w0⟩ := R0.of b0
    rw [w0]
    simp only [Option.bind_some]
    have R1 := num_rel (g.num 1).2 4 s b0 u0 v0
    cases b1 : ((g.num 1).2.num 4).2.bad with
    | true => exact R1.none b1 (pb _ _ _ b1)
    | false =>
      obtain ⟨u1, v1, w1⟩ := R1.of b1
      rw [w1]
      simp only [Option.bind_some]
      exact parts_rel _ _ _ s b1 u1 v1
theorem one_read (s : List UInt8) (a : Nat) (ha : a ≤ s.length) :
    ((readC (s.drop a)).bad = true → (Gd.one ⟨s, a, false⟩).2.bad = true ∨ (Gd.one ⟨s, a, false⟩).1.may = false) ∧
    ((readC (s.drop a)).bad = false → (Gd.one ⟨s, a, false⟩).1 = (readC (s.drop a)).o ∧ (Gd.one ⟨s, a, false⟩).1.may = true ∧ (Gd.one ⟨s, a, false⟩).2 = ⟨s, a + (readC (s.drop a)).at_, false⟩ ∧ a + (readC (s.drop a)).at_ ≤ s.length) := by
  have R := one_rel ⟨s, a, false⟩ s rfl rfl ha
  generalize Gd.one ⟨s, a, false⟩ = y at *
  simp only at R
  refine ⟨fun hb => ?_, fun hb => ?_⟩
  · cases hy : y.2.bad with
    | true => exact .inl rfl
    | false =>
      right
      obtain ⟨_, _, e⟩ := R.of hy
      cases hm : y.1.may with
      | false => rfl
      | true =>
        rw [readC_of e hm] at hb
        cases hb
  · obtain ⟨o, a2, e, hle, hm, hc⟩ := readC_ok hb
    rw [hc]
    cases hy : y.2.bad with
    | true =>
      rw [R.2 hy] at e
      cases e
    | false =>
      obtain ⟨u, v, e2⟩ := R.of hy
      rw [e2] at e
      simp only [Option.some.injEq, Prod.mk.injEq] at e
      obtain ⟨e3, e4⟩ := e
      have hl := congrArg List.length e4
      rw [List.length_drop, List.length_drop, List.length_drop] at hl
      rw [List.length_drop] at hle
      have ha2 : y.2.at_ = a + a2 := by omega
      refine ⟨e3, by rw [e3]; exact hm, ?_, by show a + a2 ≤ s.length; omega⟩
      obtain ⟨y1, ⟨ys, ya, yb⟩⟩ := y
      simp only at *
      rw [u, ha2, hy]
theorem text_len (g : Gd) : g.text.1.length ≤ 65535 := by
  obtain ⟨⟨t, c⟩, q⟩ : ∃ q, q = g.text := ⟨_, rfl⟩
  rw [← q]
  exact (text_to q).2.2.1
theorem rows_small : ∀ (k : Nat) (g : Gd), (Gd.rows k g).1.length ≤ k ∧ ∀ r ∈ (Gd.rows k g).1, r.length ≤ 65535 := by
  intro k
  induction k with
  | zero => intro g; exact ⟨Nat.le_refl _, fun r hr => by cases hr⟩
  | succ k ih =>
    intro g
    rw [Gd.rows]
    split
    · exact ⟨Nat.zero_le _, fun r hr => by cases hr⟩
    · obtain ⟨h1, h2⟩ := ih g.text.2
      refine ⟨by simp only [List.length_cons]; omega, fun r hr => ?_⟩
      rcases List.mem_cons.1 hr with rfl | hr
      · exact text_len g
      · exact h2 r hr
theorem parts_small (k pg : Nat) (g : Gd) : (Gd.parts k pg g).1.small := by
  have z : ([] : List UInt8).length ≤ 65535 := Nat.zero_le _
  have zr : ([] : List (List UInt8)).length ≤ 65535 := Nat.zero_le _
  have zm : ∀ r ∈ ([] : List (List UInt8)), r.length ≤ 65535 := fun r hr => by cases hr
  by_cases hk : 1 ≤ k ∧ k ≤ 8
  · have h3 := rows_small (g.num 2).1 (g.num 2).2
    have h4 := (num_bounds g 2 (by omega)).1
    simp only [Nat.reducePow] at h4
    rcases kinds hk with rfl | rfl | rfl | rfl | rfl | rfl | rfl | rfl
    all_goals simp only [Gd.parts, Od.small]
    · exact ⟨z, zr, zm⟩
    · exact ⟨text_len _, zr, zm⟩
    · exact ⟨text_len _, zr, zm⟩
    · exact ⟨z, zr, zm⟩
    · exact ⟨z, zr, zm⟩
    · exact ⟨z, by omega, h3.2⟩
    · exact ⟨z, zr, zm⟩
    · exact ⟨text_len _, zr, zm⟩
  · rw [parts_else k pg g hk]
    exact ⟨z, zr, zm⟩
theorem one_small (g : Gd) : g.one.1.small := parts_small _ _ _
theorem parts_wf (k pg : Nat) (g : Gd) (h1 : k < 256) (h2 : pg < 256 ^ 4) : (Gd.parts k pg g).1.wf := by
  have n1 := fun q : Gd => (num_bounds q 1 (by omega)).1
  have n2 := fun q : Gd => (num_bounds q 2 (by omega)).1
  have n4 := fun q : Gd => (num_bounds q 4 (by omega)).1
  have n1' : ∀ q : Gd, (q.num 1).1 < 256 := fun q => by simpa using n1 q
  have m2 : ∀ q : Gd, -9223372036854775808 ≤ (((q.num 2).1 : Nat) : Int) ∧ (((q.num 2).1 : Nat) : Int) ≤ 9223372036854775807 := fun q => by have := n2 q; simp only [Nat.reducePow] at this; omega
  have m0 : -9223372036854775808 ≤ (0 : Int) ∧ (0 : Int) ≤ 9223372036854775807 := by omega
  have z1 : (0 : Nat) < 256 := by omega
  have z4 : (0 : Nat) < 256 ^ 4 := by decide
  by_cases hk : 1 ≤ k ∧ k ≤ 8
  · rcases kinds hk with rfl | rfl | rfl | rfl | rfl | rfl | rfl | rfl
    all_goals simp only [Gd.parts, Od.wf]
    · exact ⟨h1, h2, m0, m0, n1' _, n1' _, n4 _⟩
    · exact ⟨h1, h2, m2 _, m0, z1, z1, z4⟩
    · exact ⟨h1, h2, m2 _, m0, z1, z1, z4⟩
    · exact ⟨h1, h2, m2 _, m0, z1, z1, z4⟩
    · exact ⟨h1, h2, m2 _, m0, z1, z1, z4⟩
    · exact ⟨h1, h2, m0, m0, z1, z1, z4⟩
    · exact ⟨h1, h2, m0, m0, z1, z1, n4 _⟩
    · exact ⟨h1, h2, m2 _, m2 _, z1, z1, z4⟩
  · rw [parts_else k pg g hk]
    exact ⟨h1, h2, m0, m0, z1, z1, z4⟩
theorem one_wf (g : Gd) : g.one.1.wf := parts_wf _ _ _ (by simpa using (num_bounds g 1 (by omega)).1) ((num_bounds _ 4 (by omega)).1)

end Go.Proofs.Ytienlhnbmobinaa
