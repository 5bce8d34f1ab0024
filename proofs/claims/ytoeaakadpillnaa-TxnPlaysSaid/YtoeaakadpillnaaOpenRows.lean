/- A slice of structs that came in: its cells one by one -/
import Derived.Test.YtoeaakadpillnaaRows
import Derived.Test.YtoeaakadpillnaaOpenFlat
import Derived.Deep.Slices
import Derived.Deep.Fields
import Derived.ChangeSame
import Derived.SizedLaws
import Derived.WalkKit
import Derived.WalkLawsBesides
import Derived.WalkSpells
import Derived.LoopTactic
import Derived.WalkMore
import Derived.LoopN
import Derived.Laws.BitsAllLaws
import Derived.Laws.IdiomStrings
import Derived.BigQuiet
import Derived.Deep.QuietTactic
import Derived.Deep.DeepCutAuto
import Derived.Deep.RegionHeld3
import Derived.Deep.DrawnRows
import Derived.Lib.Hide
import Derived.Outline
import Derived.Deep.DeepMust
import Derived.Handy
namespace Go.Proofs.Ytoeaakadpillnaa
open Go.RowKit
set_option linter.unusedVariables false
set_option linter.unusedSimpArgs false

section
open Go.ChangeShapes Go.WideShapes Go.Deep
variable {H : Type} {enc : TypeId × Value → H} {P : Program} {w : World} {base : Nat} {spare : Nat → Bool} {held : Bool}

/-- A slice of structs that came in, each laid flat: the cells of those that it has. -/
def IsRows (R : TypeId → Value → Prop) (ss : List Sc) (w : World) (a : Option Addr) (len cap : Nat) : Prop :=
  (a = none ∧ len = 0 ∧ cap = 0) ∨ ∃ x, a = some x ∧ len ≤ cap ∧ cap ≤ maxLen ∧ ∀ i, i < len → ∀ j s, ss[j]? = some s → ∃ v, w.cell? (x.add (i * ss.length + j)) = some v ∧ s.fit R v

theorem open_rows {t e : TypeId} {fs : Array Field} {a : Option Addr} {len cap : Nat} {d : DataW H} {p : List MemPlace} (ss : List Sc) (ht : P.underlying t = some (.slice e)) (he : P.underlying e = some (.struct fs))
    (hsc : scAt P 8 e 0 = some (numbered 0 ss)) (hC : P.cellsOf e = ss.length) (h : DataW.Trod enc P w base (fun _ => true) held t (.slice a len cap) d p) :
    IsRows (fun t v => ∃ m y, DataW.trod enc P w base (fun _ => true) held m t [v] = some y) ss w a len cap := by
  obtain ⟨fuel, hf⟩ := h
  rcases open_slice ht hf with h0 | ⟨x, l, c, m, n, D, Pl, hcs, hb, hl, hm, hmm, hx, hi⟩
  · have h1 : [Value.slice a len cap] = [.slice none 0 0] := h0.1
    simp at h1
    exact .inl h1
  · have h1 : [Value.slice a len cap] = [.slice (some x) l c] := hcs
    simp at h1
    obtain ⟨rfl, rfl, rfl⟩ := h1
    refine .inr ⟨x, rfl, hl, hm, fun i hil j s hs => ?_⟩
    obtain ⟨cs', hc, ht'⟩ := hi i (by rw [hmm]; simp; omega)
    rw [hC] at hc
    obtain ⟨_, hcl, hat⟩ := World.cells?_some hc
    obtain ⟨_, v, hv, hfit⟩ := scAt_trod 8 hsc ht' (0 + j) s (numbered_mem ss 0 j s hs)
    have hj : j < ss.length := (List.getElem?_eq_some_iff.1 hs).1
    have hcell := hat j hj
    refine ⟨v, ?_, hfit⟩
    rw [← Go.Deep.add_add, hcell]
    simpa using hv
end
/-- A list out of what is there for each place. -/
theorem list_of {α : Type} {p : Nat → α → Prop} : ∀ (n : Nat), (∀ i, i < n → ∃ x, p i x) → ∃ L : List α, L.length = n ∧ ∀ i (h : i < L.length), p i L[i]
  | 0, _ => ⟨[], rfl, fun i h => absurd h (Nat.not_lt_zero i)⟩
  | n + 1, h => by
    obtain ⟨L, hl, hp⟩ := list_of (p := p) n (fun i hi => h i (by omega))
    obtain ⟨x, hx⟩ := h n (by omega)
    refine ⟨L ++ [x], by simp [hl], fun i hi => ?_⟩
    by_cases hn : i < L.length
    · rw [List.getElem_append_left hn]
      exact hp i hn
    · have : i = n := by simp at hi; omega
      subst this
      rw [List.getElem_append_right (by omega)]
      simpa [hl] using hx
section
open Go.ChangeShapes Go.WideShapes Go.Deep
variable {H : Type} {enc : TypeId × Value → H} {P : Program} {w : World} {base : Nat} {spare : Nat → Bool} {held : Bool}

theorem weights_mem_all {e : TypeId} : ∀ {ds : List (DataW H)} {j : Nat} {d : DataW H}, ds[j]? = some d → ∀ n ∈ d.weights P e, n ∈ DataW.weightsAll P e ds
  | d0 :: ds, 0, d, hd, n, hn => by
    simp only [List.getElem?_cons_zero, Option.some.injEq] at hd
    subst hd
    simp only [DataW.weightsAll, List.mem_append]
    exact .inl hn
  | d0 :: ds, j + 1, d, hd, n, hn => by
    simp only [List.getElem?_cons_succ] at hd
    simp only [DataW.weightsAll, List.mem_append]
    exact .inr (weights_mem_all hd n hn)
  | [], _, _, hd, _, _ => by simp at hd

/-- A text in a struct laid flat: it is one of those that are weighed. -/
theorem scAt_weight (n : Nat) : ∀ {t : TypeId} {off m : Nat} {cs : List Value} {x : DataW H × List MemPlace} {l : List (Nat × Sc)}, scAt P n t off = some l → DataW.trod enc P w base spare held m t cs = some x →
    ∀ i, (i, Sc.str) ∈ l → ∃ s : ByteArray, cs[i - off]? = some (.string s) ∧ s.size ∈ x.1.weights P t := by
  induction n with
  | zero => intro t off m cs x l h; simp [scAt] at h
  | succ n ih =>
    intro t off m cs x l h ht i his
    unfold scAt at h
    split at h
    case h_7 hu =>
      obtain ⟨k, rfl, rfl, hw⟩ := DataW.trod_string hu ht
      obtain rfl := by simpa using h
      obtain rfl := by simpa using his
      exact ⟨k, by simp, by simp [DataW.weights]⟩
    case h_8 fs hu =>
      obtain ⟨xs, m', _, rfl, hlen, hxl, hf⟩ := DataW.trod_struct hu ht
      obtain ⟨ls, hls, rfl⟩ := Option.map_eq_some_iff.1 h
      obtain ⟨l', hl', hin⟩ := List.mem_flatten.1 his
      obtain ⟨j, hj⟩ := List.getElem?_of_mem hl'
      have hlsl := mapM_some_length hls
      have hjl : j < fs.toList.length := by rw [← hlsl]; exact (List.getElem?_eq_some_iff.1 hj).1
      have hfj : fs.toList[j]? = some fs.toList[j] := List.getElem?_eq_getElem hjl
      have h1 := (mapM_some_get hls j _ hfj).trans hj
      have h2 := hf j _ ((Array.getElem?_toList (xs := fs) (i := j)).symm.trans hfj)
      have hxj : xs[j]? = some (xs[j]'(by rw [hxl]; simpa using hjl)) := List.getElem?_eq_getElem _
      obtain ⟨s, hv, hwt⟩ := ih h1 (h2.trans hxj) i hin
      obtain ⟨ho, _⟩ := scAt_trod n h1 (h2.trans hxj) i .str hin
      refine ⟨s, ?_, ?_⟩
      · rw [List.getElem?_take] at hv
        split at hv
        · rw [List.getElem?_drop] at hv
          rwa [show fs.toList[j].offset + (i - (off + fs.toList[j].offset)) = i - off by omega] at hv
        · simp at hv
      · simp only [DataW.weights, hu]
        exact DataW.weights_mem_each (j := j) (t := fs.toList[j].type) (d := (xs[j]'(by rw [hxl]; simpa using hjl)).1) (by rw [List.getElem?_map, hfj]; rfl) (by rw [List.getElem?_map, hxj]; rfl) _ hwt
    all_goals (first | (simp at h; done) | ((try simp at h); (try subst h); simp at his))

/-- The texts of a slice of structs that came in: each is one of those that are weighed. -/
theorem open_rows_sized {t e : TypeId} {fs : Array Field} {a : Option Addr} {len cap : Nat} {d : DataW H} {p : List MemPlace} (ss : List Sc) (ht : P.underlying t = some (.slice e)) (he : P.underlying e = some (.struct fs))
    (hsc : scAt P 8 e 0 = some (numbered 0 ss)) (hC : P.cellsOf e = ss.length) (h : DataW.Trod enc P w base (fun _ => true) held t (.slice a len cap) d p) :
    ∀ x, a = some x → ∀ i, i < len → ∀ j, ss[j]? = some .str → ∃ s : ByteArray, w.cell? (x.add (i * ss.length + j)) = some (.string s) ∧ s.size ∈ d.weights P t := by
  obtain ⟨fuel, hf⟩ := h
  rcases DataW.trod_slice ht hf with h0 | ⟨x, l, c, elems, rest, n, _, hcs, hx, hb, hl, hm, hlen, hi, _, _⟩
  · have h1 : [Value.slice a len cap] = [.slice none 0 0] := h0.1
    simp at h1
    intro x hx
    rw [h1.1] at hx
    cases hx
  · have h1 : [Value.slice a len cap] = [.slice (some x) l c] := hcs
    simp at h1
    obtain ⟨rfl, rfl, rfl⟩ := h1
    have hd : d = .slice (elems.map (·.1)) (rest.map (·.1)) := congrArg Prod.fst hx
    intro y hy i hil j hs
    injection hy with hy
    subst hy
    have h2 := hi i hil
    have hel : elems[i]? = some (elems[i]'(by omega)) := List.getElem?_eq_getElem _
    rw [hel] at h2
    obtain ⟨cs', hc, ht'⟩ := Option.bind_eq_some_iff.1 h2
    rw [hC] at hc
    obtain ⟨_, hcl, hat⟩ := World.cells?_some hc
    obtain ⟨s, hv, hwt⟩ := scAt_weight 8 hsc ht' (0 + j) (numbered_mem ss 0 j .str hs)
    have hj : j < ss.length := (List.getElem?_eq_some_iff.1 hs).1
    refine ⟨s, ?_, ?_⟩
    · rw [← Go.Deep.add_add, hat j hj]
      simpa using hv
    · rw [hd]
      simp only [DataW.weights, ht, List.mem_cons, List.mem_append]
      exact .inr (.inl (weights_mem_all (j := i) (d := (elems[i]'(by omega)).1) (by rw [List.getElem?_map, hel]; rfl) _ hwt))
end

end Go.Proofs.Ytoeaakadpillnaa
