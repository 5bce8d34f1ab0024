/- A struct that came in by value, laid flat: its cells one by one.; A slice of structs that came in: its cells one by one -/
import Derived.Test.YtienlhnbmobinaaRows
import Derived.WideShapes
import Derived.ChangeArms
import Derived.ChangeOld
import Derived.Below
import Derived.OpenShut
import Derived.ProofKit
import Derived.WalkKit
import Derived.WalkLawsBesides
import Derived.WalkSpells
import Derived.LoopTactic
import Derived.WalkMore
import Derived.LoopN
import Derived.Laws.BitsAllLaws
import Derived.Laws.IdiomStrings
import Derived.BigQuiet
import Derived.Deep.QuietTactic
import Derived.Deep.DeepCutAuto
import Derived.Deep.RegionHeld3
import Derived.Deep.DrawnRows
import Derived.Lib.Hide
import Derived.Outline
import Derived.Deep.DeepMust
import Derived.Handy
import Derived.Deep.Slices
import Derived.Deep.Fields
import Derived.ChangeSame
import Derived.SizedLaws
namespace Go.Proofs.Ytienlhnbmobinaa
open Go.RowKit
set_option linter.unusedVariables false
set_option linter.unusedSimpArgs false

section
open Go.ChangeShapes Go.WideShapes
variable {H : Type} {enc : TypeId × Value → H} {P : Program} {w : World} {base : Nat} {spare : Nat → Bool} {held : Bool}

/-- A cell's kind, in a struct laid flat. -/
inductive Sc where
  | u8 | u16 | u32 | u64 | i64 | bool | str | raw (t : TypeId)
  deriving DecidableEq

def Sc.fit (R : TypeId → Value → Prop) : Sc → Value → Prop
  | .u8, v => ∃ n : Nat, v = .int .u8 n ∧ n < 256
  | .u16, v => ∃ n : Nat, v = .int .u16 n ∧ n < 256 ^ 2
  | .u32, v => ∃ n : Nat, v = .int .u32 n ∧ n < 256 ^ 4
  | .u64, v => ∃ n : Nat, v = .int .u64 n ∧ n < 256 ^ 8
  | .i64, v => ∃ n : Int, v = .int .i64 n ∧ (Lit.int .i64 n).wf = true
  | .bool, v => ∃ b, v = .bool b
  | .str, v => ∃ s : ByteArray, v = .string s ∧ s.size ≤ maxLen
  | .raw t, v => R t v

/-- The cells of a type laid flat, with their places. -/
def scAt (P : Program) : Nat → TypeId → Nat → Option (List (Nat × Sc))
  | 0, _, _ => none
  | n + 1, t, off =>
    match P.underlying t with
    | some (.int .u8) => some [(off, .u8)]
    | some (.int .u16) => some [(off, .u16)]
    | some (.int .u32) => some [(off, .u32)]
    | some (.int .u64) => some [(off, .u64)]
    | some (.int .i64) => some [(off, .i64)]
    | some .bool => some [(off, .bool)]
    | some .string => some [(off, .str)]
    | some (.struct fs) => (fs.toList.mapM fun f => scAt P n f.type (off + f.offset)).map List.flatten
    | some (.slice _) => some [(off, .raw t)]
    | some (.pointer _) => some [(off, .raw t)]
    | _ => none

theorem natOf {k : IntKind} {n : Int} {b : Nat} (h : (Lit.int k n).wf = true) (hk : k.min = 0) (hb : k.max + 1 = (b : Int)) : ∃ m : Nat, n = m ∧ m < b := by
  simp only [Lit.wf, Bool.and_eq_true, decide_eq_true_eq] at h
  refine ⟨n.toNat, ?_, ?_⟩ <;> omega

theorem scAt_trod (n : Nat) : ∀ {t : TypeId} {off m : Nat} {cs : List Value} {x : DataW H × List MemPlace} {l : List (Nat × Sc)}, scAt P n t off = some l → DataW.trod enc P w base spare held m t cs = some x →
    ∀ i s, (i, s) ∈ l → off ≤ i ∧ ∃ v, cs[i - off]? = some v ∧ s.fit (fun t v => ∃ m y, DataW.trod enc P w base spare held m t [v] = some y) v := by
  induction n with
  | zero => intro t off m cs x l h; simp [scAt] at h
  | succ n ih =>
    intro t off m cs x l h ht i s his
    unfold scAt at h
    split at h
    case h_1 hu => 
      obtain ⟨k, rfl, _, hw⟩ := DataW.trod_int hu ht
      obtain ⟨k, rfl, hk⟩ := natOf hw (by decide) (b := 256) (by decide)
      obtain rfl := by simpa using h
      obtain ⟨rfl, rfl⟩ := by simpa using his
      exact ⟨Nat.le_refl _, _, by simp, k, rfl, hk⟩
    case h_2 hu => 
      obtain ⟨k, rfl, _, hw⟩ := DataW.trod_int hu ht
      obtain ⟨k, rfl, hk⟩ := natOf hw (by decide) (b := 256 ^ 2) (by decide)
      obtain rfl := by simpa using h
      obtain ⟨rfl, rfl⟩ := by simpa using his
      exact ⟨Nat.le_refl _, _, by simp, k, rfl, hk⟩
    case h_3 hu => 
      obtain ⟨k, rfl, _, hw⟩ := DataW.trod_int hu ht
      obtain ⟨k, rfl, hk⟩ := natOf hw (by decide) (b := 256 ^ 4) (by decide)
      obtain rfl := by simpa using h
      obtain ⟨rfl, rfl⟩ := by simpa using his
      exact ⟨Nat.le_refl _, _, by simp, k, rfl, hk⟩
    case h_4 hu => 
      obtain ⟨k, rfl, _, hw⟩ := DataW.trod_int hu ht
      obtain ⟨k, rfl, hk⟩ := natOf hw (by decide) (b := 256 ^ 8) (by decide)
      obtain rfl := by simpa using h
      obtain ⟨rfl, rfl⟩ := by simpa using his
      exact ⟨Nat.le_refl _, _, by simp, k, rfl, hk⟩
    case h_5 hu => 
      obtain ⟨k, rfl, _, hw⟩ := DataW.trod_int hu ht
      obtain rfl := by simpa using h
      obtain ⟨rfl, rfl⟩ := by simpa using his
      exact ⟨Nat.le_refl _, _, by simp, k, rfl, hw⟩
    case h_6 hu => 
      obtain ⟨k, rfl, _⟩ := DataW.trod_bool hu ht
      obtain rfl := by simpa using h
      obtain ⟨rfl, rfl⟩ := by simpa using his
      exact ⟨Nat.le_refl _, _, by simp, k, rfl⟩
    case h_7 hu => 
      obtain ⟨k, rfl, _, hw⟩ := DataW.trod_string hu ht
      obtain rfl := by simpa using h
      obtain ⟨rfl, rfl⟩ := by simpa using his
      exact ⟨Nat.le_refl _, _, by simp, k, rfl, hw⟩
    case h_8 fs hu => 
      obtain ⟨xs, m', _, _, hlen, hxl, hf⟩ := DataW.trod_struct hu ht
      obtain ⟨ls, hls, rfl⟩ := Option.map_eq_some_iff.1 h
      obtain ⟨l', hl', hin⟩ := List.mem_flatten.1 his
      obtain ⟨j, hj⟩ := List.getElem?_of_mem hl'
      have hlsl := mapM_some_length hls
      have hjl : j < fs.toList.length := by rw [← hlsl]; exact (List.getElem?_eq_some_iff.1 hj).1
      have hfj : fs.toList[j]? = some fs.toList[j] := List.getElem?_eq_getElem hjl
      have h1 := (mapM_some_get hls j _ hfj).trans hj
      have h2 := hf j _ ((Array.getElem?_toList (xs := fs) (i := j)).symm.trans hfj)
      have hxj : xs[j]? = some (xs[j]'(by rw [hxl]; simpa using hjl)) := List.getElem?_eq_getElem _
      obtain ⟨ho, v, hv, hfit⟩ := ih h1 (h2.trans hxj) i s hin
      refine ⟨by omega, v, ?_, hfit⟩
      rw [List.getElem?_take] at hv
      split at hv
      · rw [List.getElem?_drop] at hv
        rwa [show fs.toList[j].offset + (i - (off + fs.toList[j].offset)) = i - off by omega] at hv
      · simp at hv
    case h_9 hu =>
      obtain rfl := by simpa using h
      obtain ⟨rfl, rfl⟩ := by simpa using his
      rcases DataW.trod_slice hu ht with ⟨rfl, _⟩ | ⟨a, len, cap, _, _, _, _, rfl, _⟩
      · exact ⟨Nat.le_refl _, _, by simp, m, x, ht⟩
      · exact ⟨Nat.le_refl _, _, by simp, m, x, ht⟩
    case h_10 hu =>
      obtain rfl := by simpa using h
      obtain ⟨rfl, rfl⟩ := by simpa using his
      rcases DataW.trod_pointer hu ht with ⟨rfl, _⟩ | ⟨a, _, _, _, _, rfl, _⟩
      · exact ⟨Nat.le_refl _, _, by simp, m, x, ht⟩
      · exact ⟨Nat.le_refl _, _, by simp, m, x, ht⟩
    case h_11 => simp at h

/-- The cells, one by one. -/
def Fits (R : TypeId → Value → Prop) : List Sc → List Value → Prop
  | [], cs => cs = []
  | .u8 :: r, cs => ∃ (n : Nat) (cs' : List Value), cs = .int .u8 n :: cs' ∧ n < 256 ∧ Fits R r cs'
  | .u16 :: r, cs => ∃ (n : Nat) (cs' : List Value), cs = .int .u16 n :: cs' ∧ n < 256 ^ 2 ∧ Fits R r cs'
  | .u32 :: r, cs => ∃ (n : Nat) (cs' : List Value), cs = .int .u32 n :: cs' ∧ n < 256 ^ 4 ∧ Fits R r cs'
  | .u64 :: r, cs => ∃ (n : Nat) (cs' : List Value), cs = .int .u64 n :: cs' ∧ n < 256 ^ 8 ∧ Fits R r cs'
  | .i64 :: r, cs => ∃ (n : Int) (cs' : List Value), cs = .int .i64 n :: cs' ∧ (Lit.int .i64 n).wf = true ∧ Fits R r cs'
  | .bool :: r, cs => ∃ (b : Bool) (cs' : List Value), cs = .bool b :: cs' ∧ True ∧ Fits R r cs'
  | .str :: r, cs => ∃ (s : ByteArray) (cs' : List Value), cs = .string s :: cs' ∧ s.size ≤ maxLen ∧ Fits R r cs'
  | .raw t :: r, cs => ∃ (v : Value) (cs' : List Value), cs = v :: cs' ∧ R t v ∧ Fits R r cs'

theorem fits_of {R : TypeId → Value → Prop} : ∀ (ss : List Sc) (cs : List Value), cs.length = ss.length → (∀ (i : Nat) (s : Sc), ss[i]? = some s → ∃ v, cs[i]? = some v ∧ s.fit R v) → Fits R ss cs
  | [], cs, h, _ => by simpa [Fits] using h
  | s :: r, [], h, _ => by simp at h
  | s :: r, c :: cs, h, hf => by
    have ih := fits_of (R := R) r cs (by simpa using h) (fun i s' hi => by simpa using hf (i + 1) s' (by simpa using hi))
    obtain ⟨v, hv, hfit⟩ := hf 0 s rfl
    obtain rfl : c = v := by simpa using hv
    cases s with
    | bool => obtain ⟨b, rfl⟩ := hfit; exact ⟨b, cs, rfl, trivial, ih⟩
    | raw t => exact ⟨_, cs, rfl, hfit, ih⟩
    | u8 => obtain ⟨n, rfl, hn⟩ := hfit; exact ⟨n, cs, rfl, hn, ih⟩
    | u16 => obtain ⟨n, rfl, hn⟩ := hfit; exact ⟨n, cs, rfl, hn, ih⟩
    | u32 => obtain ⟨n, rfl, hn⟩ := hfit; exact ⟨n, cs, rfl, hn, ih⟩
    | u64 => obtain ⟨n, rfl, hn⟩ := hfit; exact ⟨n, cs, rfl, hn, ih⟩
    | i64 => obtain ⟨n, rfl, hn⟩ := hfit; exact ⟨n, cs, rfl, hn, ih⟩
    | str => obtain ⟨n, rfl, hn⟩ := hfit; exact ⟨n, cs, rfl, hn, ih⟩

def numbered : Nat → List Sc → List (Nat × Sc)
  | _, [] => []
  | k, s :: r => (k, s) :: numbered (k + 1) r

theorem numbered_mem : ∀ (ss : List Sc) (k i : Nat) (s : Sc), ss[i]? = some s → (k + i, s) ∈ numbered k ss
  | [], k, i, s, h => by simp at h
  | a :: r, k, 0, s, h => by obtain rfl : a = s := by simpa using h
                             simp [numbered]
  | a :: r, k, i + 1, s, h => by
    have := numbered_mem r (k + 1) i s (by simpa using h)
    simp only [numbered, List.mem_cons]
    exact .inr (by rwa [show k + (i + 1) = k + 1 + i by omega])

/-- A struct that came in, laid flat. -/
theorem open_flat {r : Reach} {b0 : Nat} {t : TypeId} {fs : Array Field} {v : Value} {d : DataW H} {p : List MemPlace} (ss : List Sc) (hs : P.underlying t = some (.struct fs)) (hsc : scAt P 8 t 0 = some (numbered 0 ss)) (hC : P.cellsOf t = ss.length)
    (hv : Value.okWide P w r b0 t v) (h : DataW.Trod enc P w base spare held t v d p) :
    ∃ cs : List Value, v = .agg ⟨cs⟩ ∧ Fits (fun t v => ∃ m y, DataW.trod enc P w base spare held m t [v] = some y) ss cs := by
  obtain ⟨cs, rfl, hsz⟩ := okWide_struct hs hv
  obtain ⟨cs⟩ := cs
  obtain ⟨fuel, hf⟩ := h
  refine ⟨cs, rfl, fits_of ss cs (by simpa [hC] using hsz) fun i s hi => ?_⟩
  have hm := numbered_mem ss 0 i s hi
  obtain ⟨_, v, hv, hfit⟩ := scAt_trod 8 hsc (by simpa [Value.cells] using hf) (0 + i) s hm
  exact ⟨v, by simpa using hv, hfit⟩
end

/-- A slice of numbers that came in: nil, or a row of 'cap' cells, the numbers 'zs' (the first 'len' its elements, the rest spare), each fitting its kind. -/
def IsRow (k : IntKind) (w : World) (a : Option Addr) (len cap : Nat) (zs : List Int) : Prop :=
  (a = none ∧ len = 0 ∧ cap = 0 ∧ zs = []) ∨
  ∃ x, a = some x ∧ len ≤ cap ∧ cap ≤ maxLen ∧ zs.length = cap ∧ (∀ i, i < zs.length → w.cell? (x.add i) = some (.int k (zs.getD i 0))) ∧ ∀ n ∈ zs, (Lit.int k n).wf = true

end Go.Proofs.Ytienlhnbmobinaa

namespace Go.Proofs.Ytienlhnbmobinaa
open Go.RowKit
set_option linter.unusedVariables false
set_option linter.unusedSimpArgs false

section
open Go.ChangeShapes Go.WideShapes Go.Deep
variable {H : Type} {enc : TypeId × Value → H} {P : Program} {w : World} {base : Nat} {spare : Nat → Bool} {held : Bool}

/-- A slice of structs that came in, each laid flat: the cells of those that it has. -/
def IsRows (R : TypeId → Value → Prop) (ss : List Sc) (w : World) (a : Option Addr) (len cap : Nat) : Prop :=
  (a = none ∧ len = 0 ∧ cap = 0) ∨ ∃ x, a = some x ∧ len ≤ cap ∧ cap ≤ maxLen ∧ ∀ i, i < len → ∀ j s, ss[j]? = some s → ∃ v, w.cell? (x.add (i * ss.length + j)) = some v ∧ s.fit R v

theorem open_rows {t e : TypeId} {fs : Array Field} {a : Option Addr} {len cap : Nat} {d : DataW H} {p : List MemPlace} (ss : List Sc) (ht : P.underlying t = some (.slice e)) (he : P.underlying e = some (.struct fs))
    (hsc : scAt P 8 e 0 = some (numbered 0 ss)) (hC : P.cellsOf e = ss.length) (h : DataW.Trod enc P w base (fun _ => true) held t (.slice a len cap) d p) :
    IsRows (fun t v => ∃ m y, DataW.trod enc P w base (fun _ => true) held m t [v] = some y) ss w a len cap := by
  obtain ⟨fuel, hf⟩ := h
  rcases open_slice ht hf with h0 | ⟨x, l, c, m, n, D, Pl, hcs, hb, hl, hm, hmm, hx, hi⟩
  · have h1 : [Value.slice a len cap] = [.slice none 0 0] := h0.1
    simp at h1
    exact .inl h1
  · have h1 : [Value.slice a len cap] = [.slice (some x) l c] := hcs
    simp at h1
    obtain ⟨rfl, rfl, rfl⟩ := h1
    refine .inr ⟨x, rfl, hl, hm, fun i hil j s hs => ?_⟩
    obtain ⟨cs', hc, ht'⟩ := hi i (by rw [hmm]; simp; omega)
    rw [hC] at hc
    obtain ⟨_, hcl, hat⟩ := World.cells?_some hc
    obtain ⟨_, v, hv, hfit⟩ := scAt_trod 8 hsc ht' (0 + j) s (numbered_mem ss 0 j s hs)
    have hj : j < ss.length := (List.getElem?_eq_some_iff.1 hs).1
    have hcell := hat j hj
    refine ⟨v, ?_, hfit⟩
    rw [← Go.Deep.add_add, hcell]
    simpa using hv
end
/-- A list out of what is there for each place. -/
theorem list_of {α : Type} {p : Nat → α → Prop} : ∀ (n : Nat), (∀ i, i < n → ∃ x, p i x) → ∃ L : List α, L.length = n ∧ ∀ i (h : i < L.length), p i L[i]
  | 0, _ => ⟨[], rfl, fun i h => absurd h (Nat.not_lt_zero i)⟩
  | n + 1, h => by
    obtain ⟨L, hl, hp⟩ := list_of (p := p) n (fun i hi => h i (by omega))
    obtain ⟨x, hx⟩ := h n (by omega)
    refine ⟨L ++ [x], by simp [hl], fun i hi => ?_⟩
    by_cases hn : i < L.length
    · rw [List.getElem_append_left hn]
      exact hp i hn
    · have : i = n := by simp at hi; omega
      subst this
      rw [List.getElem_append_right (by omega)]
      simpa [hl] using hx
section
open Go.ChangeShapes Go.WideShapes Go.Deep
variable {H : Type} {enc : TypeId × Value → H} {P : Program} {w : World} {base : Nat} {spare : Nat → Bool} {held : Bool}

theorem weights_mem_all {e : TypeId} : ∀ {ds : List (DataW H)} {j : Nat} {d : DataW H}, ds[j]? = some d → ∀ n ∈ d.weights P e, n ∈ DataW.weightsAll P e ds
  | d0 :: ds, 0, d, hd, n, hn => by
    simp only [List.getElem?_cons_zero, Option.some.injEq] at hd
    subst hd
    simp only [DataW.weightsAll, List.mem_append]
    exact .inl hn
  | d0 :: ds, j + 1, d, hd, n, hn => by
    simp only [List.getElem?_cons_succ] at hd
    simp only [DataW.weightsAll, List.mem_append]
    exact .inr (weights_mem_all hd n hn)
  | [], _, _, hd, _, _ => by simp at hd

/-- A text in a struct laid flat: it is one of those that are weighed. -/
theorem scAt_weight (n : Nat) : ∀ {t : TypeId} {off m : Nat} {cs : List Value} {x : DataW H × List MemPlace} {l : List (Nat × Sc)}, scAt P n t off = some l → DataW.trod enc P w base spare held m t cs = some x →
    ∀ i, (i, Sc.str) ∈ l → ∃ s : ByteArray, cs[i - off]? = some (.string s) ∧ s.size ∈ x.1.weights P t := by
  induction n with
  | zero => intro t off m cs x l h; simp [scAt] at h
  | succ n ih =>
    intro t off m cs x l h ht i his
    unfold scAt at h
    split at h
    case h_7 hu =>
      obtain ⟨k, rfl, rfl, hw⟩ := DataW.trod_string hu ht
      obtain rfl := by simpa using h
      obtain rfl := by simpa using his
      exact ⟨k, by simp, by simp [DataW.weights]⟩
    case h_8 fs hu =>
      obtain ⟨xs, m', _, rfl, hlen, hxl, hf⟩ := DataW.trod_struct hu ht
      obtain ⟨ls, hls, rfl⟩ := Option.map_eq_some_iff.1 h
      obtain ⟨l', hl', hin⟩ := List.mem_flatten.1 his
      obtain ⟨j, hj⟩ := List.getElem?_of_mem hl'
      have hlsl := mapM_some_length hls
      have hjl : j < fs.toList.length := by rw [← hlsl]; exact (List.getElem?_eq_some_iff.1 hj).1
      have hfj : fs.toList[j]? = some fs.toList[j] := List.getElem?_eq_getElem hjl
      have h1 := (mapM_some_get hls j _ hfj).trans hj
      have h2 := hf j _ ((Array.getElem?_toList (xs := fs) (i := j)).symm.trans hfj)
      have hxj : xs[j]? = some (xs[j]'(by rw [hxl]; simpa using hjl)) := List.getElem?_eq_getElem _
      obtain ⟨s, hv, hwt⟩ := ih h1 (h2.trans hxj) i hin
      obtain ⟨ho, _⟩ := scAt_trod n h1 (h2.trans hxj) i .str hin
      refine ⟨s, ?_, ?_⟩
      · rw [List.getElem?_take] at hv
        split at hv
        · rw [List.getElem?_drop] at hv
          rwa [show fs.toList[j].offset + (i - (off + fs.toList[j].offset)) = i - off by omega] at hv
        · simp at hv
      · simp only [DataW.weights, hu]
        exact DataW.weights_mem_each (j := j) (t := fs.toList[j].type) (d := (xs[j]'(by rw [hxl]; simpa using hjl)).1) (by rw [List.getElem?_map, hfj]; rfl) (by rw [List.getElem?_map, hxj]; rfl) _ hwt
    all_goals (first | (simp at h; done) | ((try simp at h); (try subst h); simp at his))

/-- The texts of a slice of structs that came in: each is one of those that are weighed. -/
theorem open_rows_sized {t e : TypeId} {fs : Array Field} {a : Option Addr} {len cap : Nat} {d : DataW H} {p : List MemPlace} (ss : List Sc) (ht : P.underlying t = some (.slice e)) (he : P.underlying e = some (.struct fs))
    (hsc : scAt P 8 e 0 = some (numbered 0 ss)) (hC : P.cellsOf e = ss.length) (h : DataW.Trod enc P w base (fun _ => true) held t (.slice a len cap) d p) :
    ∀ x, a = some x → ∀ i, i < len → ∀ j, ss[j]? = some .str → ∃ s : ByteArray, w.cell? (x.add (i * ss.length + j)) = some (.string s) ∧ s.size ∈ d.weights P t := by
  obtain ⟨fuel, hf⟩ := h
  rcases DataW.trod_slice ht hf with h0 | ⟨x, l, c, elems, rest, n, _, hcs, hx, hb, hl, hm, hlen, hi, _, _⟩
  · have h1 : [Value.slice a len cap] = [.slice none 0 0] := h0.1
    simp at h1
    intro x hx
    rw [h1.1] at hx
    cases hx
  · have h1 : [Value.slice a len cap] = [.slice (some x) l c] := hcs
    simp at h1
    obtain ⟨rfl, rfl, rfl⟩ := h1
    have hd : d = .slice (elems.map (·.1)) (rest.map (·.1)) := congrArg Prod.fst hx
    intro y hy i hil j hs
    injection hy with hy
    subst hy
    have h2 := hi i hil
    have hel : elems[i]? = some (elems[i]'(by omega)) := List.getElem?_eq_getElem _
    rw [hel] at h2
    obtain ⟨cs', hc, ht'⟩ := Option.bind_eq_some_iff.1 h2
    rw [hC] at hc
    obtain ⟨_, hcl, hat⟩ := World.cells?_some hc
    obtain ⟨s, hv, hwt⟩ := scAt_weight 8 hsc ht' (0 + j) (numbered_mem ss 0 j .str hs)
    have hj : j < ss.length := (List.getElem?_eq_some_iff.1 hs).1
    refine ⟨s, ?_, ?_⟩
    · rw [← Go.Deep.add_add, hat j hj]
      simpa using hv
    · rw [hd]
      simp only [DataW.weights, ht, List.mem_cons, List.mem_append]
      exact .inr (.inl (weights_mem_all (j := i) (d := (elems[i]'(by omega)).1) (by rw [List.getElem?_map, hel]; rfl) _ hwt))
end

end Go.Proofs.Ytienlhnbmobinaa
