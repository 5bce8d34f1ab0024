/- Kept of our texts for this claim: OpDec RefOne OneLaw RefDec11 -/
import Derived.Test.YtienlhnbmobinaaGreatRows
import Derived.Test.YtienlhnbmobinaaGreatAdAu
import Derived.Test.YtienlhnbmobinaaGreatAdAq
import Derived.Test.YtienlhnbmobinaaGreatAdAp
import Derived.Test.YtienlhnbmobinaaGreatAdAo
import Derived.Test.YtienlhnbmobinaaGreatAdAl
import Derived.Test.YtienlhnbmobinaaGreatAdAk
import Derived.Test.YtienlhnbmobinaaGreatAdAm
import Derived.Test.YtienlhnbmobinaaGreatAdAn
import Derived.Test.YtienlhnbmobinaaGreatAdAc
import Derived.Test.YtienlhnbmobinaaGreatAdAa
import Derived.Test.YtienlhnbmobinaaGreatAdAb
import Derived.WalkKit
import Derived.WalkLawsBesides
import Derived.WalkSpells
import Derived.LoopTactic
import Derived.WalkMore
import Derived.LoopN
import Derived.Laws.BitsAllLaws
import Derived.Laws.IdiomStrings
import Derived.BigQuiet
import Derived.Deep.QuietTactic
import Derived.Deep.DeepCutAuto
import Derived.Deep.RegionHeld3
import Derived.Deep.DrawnRows
import Derived.Lib.Hide
import Derived.Outline
import Derived.Deep.DeepMust
import Derived.Handy
import Derived.Test.YtienlhnbmobinaaGreatAdAd
section
/- op.Decode -/
namespace Go.Proofs.YtienlhnbmobinaaGreat
open Go.RowKit
set_option linter.unusedVariables false
set_option linter.unusedSimpArgs false
/-- An op made here, and its rows. -/
def OwnOps (w : World) (base : Nat) (v : Value) (L : List Ov) : Prop := w.ownsRow base 40 9 v L.length (L.flatMap Ov.cell) ∧ ∀ e ∈ L, w.ownsRow base 9 1 e.sv e.o.rows.length (strs e.o.rows)
theorem OwnOps.nil (w : World) (base : Nat) : OwnOps w base (.slice none 0 0) [] := ⟨World.ownsRow_nil _ _ _ _, fun e he => by cases he⟩
theorem OwnOps.below {w w' : World} {base : Nat} {v : Value} {L : List Ov} (h : OwnOps w base v L) (hb : Below w.heap.size w w') : OwnOps w' base v L := ⟨own_below h.1 hb, fun e he => own_below (h.2 e he) hb⟩
theorem own_other {w : World} {base base' n m size : Nat} {u v : Value} {xs ys : List Value} (h : w.ownsRow base 9 1 u n xs) (h2 : w.ownsRow base' 40 size v m ys) : u.ownBlock = none ∨ u.ownBlock ≠ v.ownBlock := by
  rcases h.2 with ⟨rfl, _⟩ | ⟨g, cap, cur, rfl, _, hg, _⟩
  · exact .inl rfl
  · right
    rcases h2.2 with ⟨rfl, _⟩ | ⟨g2, cap2, cur2, rfl, _, hg2, _⟩
    · intro e; cases e
    · intro e
      injection e with e
      simp only at e
      rw [e, hg2] at hg
      simp at hg
theorem OwnOps.snoc {w w2 : World} {base : Nat} {v v' : Value} {L : List Ov} {e : Ov} (h : OwnOps w base v L) (he : w.ownsRow base 9 1 e.sv e.o.rows.length (strs e.o.rows)) (ho : w2.ownsRow base 40 9 v' (L.length + 1) (L.flatMap Ov.cell ++ e.cell)) (hg : w.grownBy w2 v.ownBlock) : OwnOps w2 base v' (L ++ [e]) := by
  refine ⟨?_, fun x hx => ?_⟩
  · rw [List.length_append, List.flatMap_append]
    simpa using ho
  · rcases List.mem_append.1 hx with hx | hx
    · exact (h.2 x hx).kept hg (own_other (h.2 x hx) h.1)
    · rw [List.mem_singleton.1 hx]
      exact he.kept hg (own_other he h.1)
theorem flat_getO (l : List Ov) : ∀ (j i : Nat) (v : Value) (h : j < l.length), l[j].cell[i]? = some v → (l.flatMap Ov.cell)[j * 9 + i]? = some v := by
  induction l with
  | nil => intro j i v h; simp at h
  | cons r rs ih =>
    intro j i v h hv
    have hr : r.cell.length = 9 := rfl
    rw [List.flatMap_cons]
    cases j with
    | zero =>
      have hi : i < 9 := by have := (List.getElem?_eq_some_iff.1 hv).1; rw [List.getElem_cons_zero, hr] at this; exact this
      rw [List.getElem?_append_left (by rw [hr]; omega)]
      simpa using hv
    | succ j =>
      rw [List.getElem?_append_right (by rw [hr]; omega), hr, show (j + 1) * 9 + i - 9 = j * 9 + i by omega]
      exact ih j i v (by simpa using h) (by simpa using hv)
theorem OwnOps.at_ {w : World} {base : Nat} {v : Value} {L : List Ov} (h : OwnOps w base v L) : OpsAt w v L := by
  obtain ⟨⟨hl, h1⟩, h2⟩ := h
  rcases h1 with ⟨rfl, h0⟩ | ⟨g, cap, cur, rfl, hg, hb, hn, hc, hz, ht⟩
  · have : L = [] := List.eq_nil_of_length_eq_zero h0
    subst this
    exact OpsAt.nil w
  · refine ⟨_, cap, rfl, hn, hc, fun h0 => ⟨g, 0, rfl, blk_lt hb, fun j hj i v hv => ?_⟩, fun e he => (texts_own (h2 e he)).1⟩
    have h3 := flat_getO L j i v hj hv
    rw [← ht, List.getElem?_take] at h3
    split at h3
    · rw [show 0 + j * 9 + i = j * 9 + i by omega, blk_cell hb]
      simpa using h3
    · cases h3
theorem drop_extract (s : List UInt8) (a : Nat) : (⟨s.toArray⟩ : ByteArray).extract a s.length = ⟨(s.drop a).toArray⟩ := by
  apply bytes_ext
  rw [ByteArray.data_extract]
  simp
  exact List.take_of_length_le (by simp)
/-- What a list's bytes are read as. -/
def decGo : Nat → List UInt8 → Option (List Od)
  | 0, r => if r.length = 0 then some [] else none
  | k + 1, r => if (readC r).bad = true then none else (decGo k (r.drop (readC r).at_)).map ((readC r).o :: ·)
def decL (s : List UInt8) : Option (List Od) := if 1 ≤ s.length ∧ rdNum s 0 1 ≤ 32 then decGo (rdNum s 0 1) (s.drop 1) else none
def decE (s : List UInt8) : Int := if (decL s).isSome = true then 0 else 7
/-- What decoding leaves. -/
def DecPost (w : World) (s : List UInt8) (e : Ending) (w' : World) : Prop := ∃ v L, e = .returned (.tuple #[v, .int .i64 (decE s)]) ∧ OwnOps w' w.heap.size v L ∧ L.map Ov.o = (decL s).getD [] ∧ Below w.heap.size w w'
theorem DecPost.no {w w' : World} {s : List UInt8} (h : decL s = none) (hb : Below w.heap.size w w') : DecPost w s (.returned (.tuple #[.slice none 0 0, .int .i64 7])) w' := by
  refine ⟨_, [], by unfold decE; rw [h]; rfl, OwnOps.nil _ _, by rw [h]; rfl, hb⟩
end Go.Proofs.YtienlhnbmobinaaGreat
end

section
/- ref11: get.one -/
namespace Go.Proofs.YtienlhnbmobinaaGreat
open Go.RowKit
set_option linter.unusedVariables false
set_option linter.unusedSimpArgs false
def Gd.rows : Nat → Gd → List (List UInt8) × Gd
  | 0, g => ([], g)
  | k + 1, g => if g.bad = true then ([], g) else (g.text.1 :: (Gd.rows k g.text.2).1, (Gd.rows k g.text.2).2)
def Gd.parts (k pg : Nat) (g : Gd) : Od × Gd :=
  match k with
  | 1 => (⟨k, pg, 0, 0, [], [], (g.num 1).1, ((g.num 1).2.num 1).1, (((g.num 1).2.num 1).2.num 4).1⟩, (((g.num 1).2.num 1).2.num 4).2)
  | 2 => (⟨k, pg, (g.num 2).1, 0, (g.num 2).2.text.1, [], 0, 0, 0⟩, (g.num 2).2.text.2)
  | 3 => (⟨k, pg, (g.num 2).1, 0, (g.num 2).2.text.1, [], 0, 0, 0⟩, (g.num 2).2.text.2)
  | 4 => (⟨k, pg, (g.num 2).1, 0, [], [], 0, 0, 0⟩, (g.num 2).2)
  | 5 => (⟨k, pg, (g.num 2).1, 0, [], [], 0, 0, 0⟩, (g.num 2).2)
  | 6 => (⟨k, pg, 0, 0, [], (Gd.rows (g.num 2).1 (g.num 2).2).1, 0, 0, 0⟩, (Gd.rows (g.num 2).1 (g.num 2).2).2)
  | 7 => (⟨k, pg, 0, 0, [], [], 0, 0, (g.num 4).1⟩, (g.num 4).2)
  | 8 => (⟨k, pg, (g.num 2).1, ((g.num 2).2.num 2).1, ((g.num 2).2.num 2).2.text.1, [], 0, 0, 0⟩, ((g.num 2).2.num 2).2.text.2)
  | _ => (⟨k, pg, 0, 0, [], [], 0, 0, 0⟩, g)
def Gd.one (g : Gd) : Od × Gd := Gd.parts (g.num 1).1 ((g.num 1).2.num 4).1 ((g.num 1).2.num 4).2
theorem text_to {g : Gd} {t : List UInt8} {c : Gd} (h : (t, c) = g.text) : c.at_ ≤ g.at_ + 65537 ∧ c.s = g.s ∧ t.length ≤ 65535 ∧ (c.bad = false → c.at_ ≤ c.s.length) := by
  have hb := num_bounds g 2 (by omega)
  simp only [Nat.reducePow] at hb
  unfold Gd.text at h
  split at h
  · rename_i hc
    rw [Bool.and_eq_true, decide_eq_true_eq] at hc
    simp only [Prod.mk.injEq] at h
    obtain ⟨rfl, rfl⟩ := h
    refine ⟨by show _ + _ ≤ _; omega, rfl, ?_, fun _ => hc.1⟩
    unfold rdText
    split
    · rw [List.length_take]; omega
    · simp
  · simp only [Prod.mk.injEq] at h
    obtain ⟨rfl, rfl⟩ := h
    exact ⟨by show _ + _ ≤ _; omega, rfl, by simp, fun h => by cases h⟩
end Go.Proofs.YtienlhnbmobinaaGreat
end

section
/- ref11: what get.one reads -/
namespace Go.Proofs.YtienlhnbmobinaaGreat
open Go.RowKit
set_option linter.unusedVariables false
set_option linter.unusedSimpArgs false
/-- What is read, told twice. -/
def Rel {α : Type} (x : Option (α × List UInt8)) (y : α × Gd) (s : List UInt8) : Prop := (y.2.bad = false → y.2.s = s ∧ y.2.at_ ≤ s.length ∧ x = some (y.1, s.drop y.2.at_)) ∧ (y.2.bad = true → x = none)
theorem Rel.none {α β : Type} {x : Option (α × List UInt8)} {y : α × Gd} {z : β × Gd} {s : List UInt8} {f : α × List UInt8 → Option (β × List UInt8)} (h : Rel x y s) (hb : y.2.bad = true) (hz : z.2.bad = true) : Rel (x.bind f) z s := by
  rw [h.2 hb]
  exact ⟨fun h => (by rw [hz] at h; cases h), fun _ => rfl⟩
theorem text_len (g : Gd) : g.text.1.length ≤ 65535 := by
  obtain ⟨⟨t, c⟩, q⟩ : ∃ q, q = g.text := ⟨_, rfl⟩
  rw [← q]
  exact (text_to q).2.2.1
end Go.Proofs.YtienlhnbmobinaaGreat
end

section
/- ref11: Decode -/
namespace Go.Proofs.YtienlhnbmobinaaGreat
open Go.RowKit
set_option linter.unusedVariables false
set_option linter.unusedSimpArgs false
theorem own_mono9 {w : World} {base base' size n : Nat} {e : TypeId} {v : Value} {xs : List Value} (h : w.ownsRow base e size v n xs) (hb : base' ≤ base) : w.ownsRow base' e size v n xs := by
  refine ⟨h.1, ?_⟩
  rcases h.2 with h1 | ⟨g, cap, cur, h1, hg, h2⟩
  · exact .inl h1
  · exact .inr ⟨g, cap, cur, h1, by omega, h2⟩
theorem own_ge9 {w : World} {base size n : Nat} {e : TypeId} {v : Value} {xs : List Value} (h : w.ownsRow base e size v n xs) : ∀ j, v.ownBlock = some j → base ≤ j := fun j hj => (h.lt j hj).1
theorem OwnOps.mono {w : World} {base base' : Nat} {v : Value} {L : List Ov} (h : OwnOps w base v L) (hb : base' ≤ base) : OwnOps w base' v L := ⟨own_mono9 h.1 hb, fun e he => own_mono9 (h.2 e he) hb⟩
theorem OwnOps.kept {w w' : World} {base g : Nat} {v : Value} {L : List Ov} (h : OwnOps w base v L) (hk : OthersKept w w' (fun x => x = g)) (hg : g < base) : OwnOps w' base v L :=
  ⟨hk.owns h.1 (fun j hj e => by have := own_ge9 h.1 j hj; omega), fun e he => hk.owns (h.2 e he) (fun j hj e => by have := own_ge9 (h.2 _ he) j hj; omega)⟩
end Go.Proofs.YtienlhnbmobinaaGreat
end
