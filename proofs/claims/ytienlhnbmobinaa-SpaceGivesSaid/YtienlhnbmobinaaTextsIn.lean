/- Slices of texts that came in. -/
import Derived.Test.YtienlhnbmobinaaRows
import Derived.Test.YtienlhnbmobinaaTextsP
import Derived.Test.YtienlhnbmobinaaOpenFlat
import Derived.SliceStrings
import Derived.WalkKit
import Derived.WalkLawsBesides
import Derived.WalkSpells
import Derived.LoopTactic
import Derived.WalkMore
import Derived.LoopN
import Derived.Laws.BitsAllLaws
import Derived.Laws.IdiomStrings
import Derived.BigQuiet
import Derived.Deep.QuietTactic
import Derived.Deep.DeepCutAuto
import Derived.Deep.RegionHeld3
import Derived.Deep.DrawnRows
import Derived.Lib.Hide
import Derived.Outline
import Derived.Deep.DeepMust
import Derived.Handy
namespace Go.Proofs.Ytienlhnbmobinaa
open Go.RowKit
set_option linter.unusedVariables false
set_option linter.unusedSimpArgs false

theorem spot_noneT {w : World} {x : Addr} {v : Value} (h : w.cell? x = some v) : ∃ b o, x = ⟨b, o, none⟩ := by
  obtain ⟨b, o, sp⟩ := x
  cases sp with
  | none => exact ⟨b, o, rfl⟩
  | some k =>
    unfold World.cell? at h
    simp at h
    split at h <;> simp at h
section
open Go.ChangeShapes Go.WideShapes
variable {H : Type} {enc : TypeId × Value → H} {P : Program} {w : World} {base : Nat} {held : Bool}

/-- What is below a struct's cell: it is trodden, and what it weighs the struct weighs. -/
theorem scAt_sub (n : Nat) : ∀ {t : TypeId} {off m : Nat} {cs : List Value} {x : DataW H × List MemPlace} {l : List (Nat × Sc)}, scAt P n t off = some l → DataW.trod enc P w base (fun _ => true) held m t cs = some x →
    ∀ i t', (i, Sc.raw t') ∈ l → off ≤ i ∧ ∃ v m' y, cs[i - off]? = some v ∧ DataW.trod enc P w base (fun _ => true) held m' t' [v] = some y ∧ ∀ k ∈ y.1.weights P t', k ∈ x.1.weights P t := by
  induction n with
  | zero => intro t off m cs x l h; simp [scAt] at h
  | succ n ih =>
    intro t off m cs x l h ht i t' his
    unfold scAt at h
    split at h
    case h_8 fs hu =>
      obtain ⟨xs, m', _, rfl, hlen, hxl, hf⟩ := DataW.trod_struct hu ht
      obtain ⟨ls, hls, rfl⟩ := Option.map_eq_some_iff.1 h
      obtain ⟨l', hl', hin⟩ := List.mem_flatten.1 his
      obtain ⟨j, hj⟩ := List.getElem?_of_mem hl'
      have hlsl := mapM_some_length hls
      have hjl : j < fs.toList.length := by rw [← hlsl]; exact (List.getElem?_eq_some_iff.1 hj).1
      have hfj : fs.toList[j]? = some fs.toList[j] := List.getElem?_eq_getElem hjl
      have h1 := (mapM_some_get hls j _ hfj).trans hj
      have h2 := hf j _ ((Array.getElem?_toList (xs := fs) (i := j)).symm.trans hfj)
      have hxj : xs[j]? = some (xs[j]'(by rw [hxl]; simpa using hjl)) := List.getElem?_eq_getElem _
      obtain ⟨ho, v, m2, y, hv, hty, hwt⟩ := ih h1 (h2.trans hxj) i t' hin
      refine ⟨by omega, v, m2, y, ?_, hty, fun k hk => ?_⟩
      · rw [List.getElem?_take] at hv
        split at hv
        · rw [List.getElem?_drop] at hv
          rwa [show fs.toList[j].offset + (i - (off + fs.toList[j].offset)) = i - off by omega] at hv
        · simp at hv
      · simp only [DataW.weights, hu]
        exact DataW.weights_mem_each (j := j) (t := fs.toList[j].type) (d := (xs[j]'(by rw [hxl]; simpa using hjl)).1) (by rw [List.getElem?_map, hfj]; rfl) (by rw [List.getElem?_map, hxj]; rfl) _ (hwt k hk)
    case h_9 hu =>
      obtain rfl := by simpa using h
      obtain ⟨rfl, rfl⟩ := by simpa using his
      rcases DataW.trod_slice hu ht with ⟨rfl, _⟩ | ⟨a, len, cap, _, _, _, _, rfl, _⟩
      · exact ⟨Nat.le_refl _, _, m, x, by simp, ht, fun k hk => hk⟩
      · exact ⟨Nat.le_refl _, _, m, x, by simp, ht, fun k hk => hk⟩
    case h_10 hu =>
      obtain rfl := by simpa using h
      obtain ⟨rfl, rfl⟩ := by simpa using his
      rcases DataW.trod_pointer hu ht with ⟨rfl, _⟩ | ⟨a, _, _, _, _, rfl, _⟩
      · exact ⟨Nat.le_refl _, _, m, x, by simp, ht, fun k hk => hk⟩
      · exact ⟨Nat.le_refl _, _, m, x, by simp, ht, fun k hk => hk⟩
    all_goals (first | (simp at h; done) | ((try simp at h); (try subst h); simp at his))

theorem texts_of_trod {t e : TypeId} {v : Value} {m : Nat} {y : DataW H × List MemPlace} (ht : P.underlying t = some (.slice e)) (he : P.underlying e = some .string) (hc : P.cellsOf e = 1) (h : DataW.trod enc P w base (fun _ => true) held m t [v] = some y) :
    ∃ ts, TextsAt w v ts ∧ ∀ r ∈ ts, r.length ∈ y.1.weights P t := by
  rcases open_strings (spare := fun _ => true) ht he hc h with ⟨hcs, _⟩ | ⟨x, len, cap, ss, hcs, _, hl, hm, hlen, hx, hcell, _⟩
  · simp at hcs
    subst hcs
    exact ⟨[], TextsAt.nil w, fun r h => by cases h⟩
  · simp at hcs
    subst hcs
    simp only [if_true] at hlen
    have hlen2 : ((ss.take len).map fun s : ByteArray => s.data.toList).length = len := by simp; omega
    have hj : ∀ j (h : j < ((ss.take len).map fun s : ByteArray => s.data.toList).length), w.cell? (x.add j) = some (.string ⟨((ss.take len).map fun s : ByteArray => s.data.toList)[j].toArray⟩) := by
      intro j h
      have hjz : j < ss.length := by omega
      have h1 := hcell j hjz
      have hg : ss.getD j ByteArray.empty = ss[j] := by simp [hjz]
      rw [h1, hg, List.getElem_map, List.getElem_take]
    refine ⟨(ss.take len).map fun s : ByteArray => s.data.toList, ⟨some x, cap, by rw [hlen2], by rw [hlen2]; exact hl, hm, fun h => (by cases h), fun h0 => ?_⟩, fun r hr => ?_⟩
    · have h1 := hj 0 h0
      have e0 : x.add 0 = x := rfl
      rw [e0] at h1
      obtain ⟨b, o, rfl⟩ := spot_noneT h1
      refine ⟨b, o, rfl, cell_lt h1, fun j h => ?_⟩
      have h2 := hj j h
      rwa [Addr.add_lit] at h2
    · obtain ⟨s, hs, rfl⟩ := List.mem_map.1 hr
      rw [hx]
      obtain ⟨j, hj, rfl⟩ := List.getElem_of_mem hs
      simp only [DataW.weights, ht, List.mem_cons, List.mem_append]
      refine .inr (.inl (weights_mem_all (j := j) (d := .lit (.string (ss.take len)[j].data.toList)) ?_ _ (by simp [DataW.weights])))
      show (List.map (fun s : ByteArray => (.lit (.string s.data.toList) : DataW H)) (ss.take len))[j]? = _
      rw [List.getElem?_map, List.getElem?_eq_getElem hj]
      rfl

/-- The texts of a struct that came in. -/
theorem texts_of_flat {t t' e : TypeId} {cs : List Value} {d : DataW H} {p : List MemPlace} (ss : List Sc) (hsc : scAt P 8 t 0 = some (numbered 0 ss)) (i : Nat) (hi : ss[i]? = some (.raw t'))
    (ht : P.underlying t' = some (.slice e)) (he : P.underlying e = some .string) (hc : P.cellsOf e = 1) (h : DataW.Trod enc P w base (fun _ => true) held t (.agg ⟨cs⟩) d p) :
    ∃ v ts, cs[i]? = some v ∧ TextsAt w v ts ∧ ∀ r ∈ ts, r.length ∈ d.weights P t := by
  obtain ⟨fuel, hf⟩ := h
  obtain ⟨_, v, m, y, hv, hty, hwt⟩ := scAt_sub 8 hsc (by simpa [Value.cells] using hf) (0 + i) t' (numbered_mem ss 0 i _ hi)
  obtain ⟨ts, hts, hsz⟩ := texts_of_trod ht he hc hty
  exact ⟨v, ts, by simpa using hv, hts, fun r hr => hwt _ (hsz r hr)⟩
end

end Go.Proofs.Ytienlhnbmobinaa
