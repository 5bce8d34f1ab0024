/- Kept of our texts for this claim: OpenFlat Plains -/
import Derived.Test.YtienlhnbmobinaaGreatRows
import Derived.WideShapes
import Derived.ChangeArms
import Derived.ChangeOld
import Derived.Below
import Derived.OpenShut
import Derived.ProofKit
import Derived.WalkKit
import Derived.WalkLawsBesides
import Derived.WalkSpells
import Derived.LoopTactic
import Derived.WalkMore
import Derived.LoopN
import Derived.Laws.BitsAllLaws
import Derived.Laws.IdiomStrings
import Derived.BigQuiet
import Derived.Deep.QuietTactic
import Derived.Deep.DeepCutAuto
import Derived.Deep.RegionHeld3
import Derived.Deep.DrawnRows
import Derived.Lib.Hide
import Derived.Outline
import Derived.Deep.DeepMust
import Derived.Handy
import Derived.Deep.Slices
import Derived.Deep.Fields
import Derived.ChangeSame
import Derived.SizedLaws
import Derived.Lib.Strings
import Derived.Lib.Bytealg
import Derived.Laws.Cover1
section
/- A struct that came in by value, laid flat: its cells one by one.; A slice of structs that came in: its cells one by one -/
namespace Go.Proofs.YtienlhnbmobinaaGreat
open Go.RowKit
set_option linter.unusedVariables false
set_option linter.unusedSimpArgs false
section
open Go.ChangeShapes Go.WideShapes
variable {H : Type} {enc : TypeId × Value → H} {P : Program} {w : World} {base : Nat} {spare : Nat → Bool} {held : Bool}
/-- A cell's kind, in a struct laid flat. -/
inductive Sc where
  | u8 | u16 | u32 | u64 | i64 | bool | str | raw (t : TypeId)
  deriving DecidableEq
def Sc.fit (R : TypeId → Value → Prop) : Sc → Value → Prop
  | .u8, v => ∃ n : Nat, v = .int .u8 n ∧ n < 256
  | .u16, v => ∃ n : Nat, v = .int .u16 n ∧ n < 256 ^ 2
  | .u32, v => ∃ n : Nat, v = .int .u32 n ∧ n < 256 ^ 4
  | .u64, v => ∃ n : Nat, v = .int .u64 n ∧ n < 256 ^ 8
  | .i64, v => ∃ n : Int, v = .int .i64 n ∧ (Lit.int .i64 n).wf = true
  | .bool, v => ∃ b, v = .bool b
  | .str, v => ∃ s : ByteArray, v = .string s ∧ s.size ≤ maxLen
  | .raw t, v => R t v
/-- The cells of a type laid flat, with their places. -/
def scAt (P : Program) : Nat → TypeId → Nat → Option (List (Nat × Sc))
  | 0, _, _ => none
  | n + 1, t, off =>
    match P.underlying t with
    | some (.int .u8) => some [(off, .u8)]
    | some (.int .u16) => some [(off, .u16)]
    | some (.int .u32) => some [(off, .u32)]
    | some (.int .u64) => some [(off, .u64)]
    | some (.int .i64) => some [(off, .i64)]
    | some .bool => some [(off, .bool)]
    | some .string => some [(off, .str)]
    | some (.struct fs) => (fs.toList.mapM fun f => scAt P n f.type (off + f.offset)).map List.flatten
    | some (.slice _) => some [(off, .raw t)]
    | some (.pointer _) => some [(off, .raw t)]
    | _ => none
theorem natOf {k : IntKind} {n : Int} {b : Nat} (h : (Lit.int k n).wf = true) (hk : k.min = 0) (hb : k.max + 1 = (b : Int)) : ∃ m : Nat, n = m ∧ m < b := by
  simp only [Lit.wf, Bool.and_eq_true, decide_eq_true_eq] at h
  refine ⟨n.toNat, ?_, ?_⟩ <;> omega
theorem scAt_trod (n : Nat) : ∀ {t : TypeId} {off m : Nat} {cs : List Value} {x : DataW H × List MemPlace} {l : List (Nat × Sc)}, scAt P n t off = some l → DataW.trod enc P w base spare held m t cs = some x →
    ∀ i s, (i, s) ∈ l → off ≤ i ∧ ∃ v, cs[i - off]? = some v ∧ s.fit (fun t v => ∃ m y, DataW.trod enc P w base spare held m t [v] = some y) v := by
  induction n with
  | zero => intro t off m cs x l h; simp [scAt] at h
  | succ n ih =>
    intro t off m cs x l h ht i s his
    unfold scAt at h
    split at h
    case h_1 hu => 
      obtain ⟨k, rfl, _, hw⟩ := DataW.trod_int hu ht
      obtain ⟨k, rfl, hk⟩ := natOf hw (by decide) (b := 256) (by decide)
      obtain rfl := by simpa using h
      obtain ⟨rfl, rfl⟩ := by simpa using his
      exact ⟨Nat.le_refl _, _, by simp, k, rfl, hk⟩
    case h_2 hu => 
      obtain ⟨k, rfl, _, hw⟩ := DataW.trod_int hu ht
      obtain ⟨k, rfl, hk⟩ := natOf hw (by decide) (b := 256 ^ 2) (by decide)
      obtain rfl := by simpa using h
      obtain ⟨rfl, rfl⟩ := by simpa using his
      exact ⟨Nat.le_refl _, _, by simp, k, rfl, hk⟩
    case h_3 hu => 
      obtain ⟨k, rfl, _, hw⟩ := DataW.trod_int hu ht
      obtain ⟨k, rfl, hk⟩ := natOf hw (by decide) (b := 256 ^ 4) (by decide)
      obtain rfl := by simpa using h
      obtain ⟨rfl, rfl⟩ := by simpa using his
      exact ⟨Nat.le_refl _, _, by simp, k, rfl, hk⟩
    case h_4 hu => 
      obtain ⟨k, rfl, _, hw⟩ := DataW.trod_int hu ht
      obtain ⟨k, rfl, hk⟩ := natOf hw (by decide) (b := 256 ^ 8) (by decide)
      obtain rfl := by simpa using h
      obtain ⟨rfl, rfl⟩ := by simpa using his
      exact ⟨Nat.le_refl _, _, by simp, k, rfl, hk⟩
    case h_5 hu => 
      obtain ⟨k, rfl, _, hw⟩ := DataW.trod_int hu ht
      obtain rfl := by simpa using h
      obtain ⟨rfl, rfl⟩ := by simpa using his
      exact ⟨Nat.le_refl _, _, by simp, k, rfl, hw⟩
    case h_6 hu => 
      obtain ⟨k, rfl, _⟩ := DataW.trod_bool hu ht
      obtain rfl := by simpa using h
      obtain ⟨rfl, rfl⟩ := by simpa using his
      exact ⟨Nat.le_refl _, _, by simp, k, rfl⟩
    case h_7 hu => 
      obtain ⟨k, rfl, _, hw⟩ := DataW.trod_string hu ht
      obtain rfl := by simpa using h
      obtain ⟨rfl, rfl⟩ := by simpa using his
      exact ⟨Nat.le_refl _, _, by simp, k, rfl, hw⟩
    case h_8 fs hu => 
      obtain ⟨xs, m', _, _, hlen, hxl, hf⟩ := DataW.trod_struct hu ht
      obtain ⟨ls, hls, rfl⟩ := Option.map_eq_some_iff.1 h
      obtain ⟨l', hl', hin⟩ := List.mem_flatten.1 his
      obtain ⟨j, hj⟩ := List.getElem?_of_mem hl'
      have hlsl := mapM_some_length hls
      have hjl : j < fs.toList.length := by rw [← hlsl]; exact (List.getElem?_eq_some_iff.1 hj).1
      have hfj : fs.toList[j]? = some fs.toList[j] := List.getElem?_eq_getElem hjl
      have h1 := (mapM_some_get hls j _ hfj).trans hj
      have h2 := hf j _ ((Array.getElem?_toList (xs := fs) (i := j)).symm.trans hfj)
      have hxj : xs[j]? = some (xs[j]'(by rw [hxl]; simpa using hjl)) := List.getElem?_eq_getElem _
      obtain ⟨ho, v, hv, hfit⟩ := ih h1 (h2.trans hxj) i s hin
      refine ⟨by omega, v, ?_, hfit⟩
      rw [List.getElem?_take] at hv
      split at hv
      · rw [List.getElem?_drop] at hv
        rwa [show fs.toList[j].offset + (i - (off + fs.toList[j].offset)) = i - off by omega] at hv
      · simp at hv
    case h_9 hu =>
      obtain rfl := by simpa using h
      obtain ⟨rfl, rfl⟩ := by simpa using his
      rcases DataW.trod_slice hu ht with ⟨rfl, _⟩ | ⟨a, len, cap, _, _, _, _, rfl, _⟩
      · exact ⟨Nat.le_refl _, _, by simp, m, x, ht⟩
      · exact ⟨Nat.le_refl _, _, by simp, m, x, ht⟩
    case h_10 hu =>
      obtain rfl := by simpa using h
      obtain ⟨rfl, rfl⟩ := by simpa using his
      rcases DataW.trod_pointer hu ht with ⟨rfl, _⟩ | ⟨a, _, _, _, _, rfl, _⟩
      · exact ⟨Nat.le_refl _, _, by simp, m, x, ht⟩
      · exact ⟨Nat.le_refl _, _, by simp, m, x, ht⟩
    case h_11 => simp at h
/-- The cells, one by one. -/
def Fits (R : TypeId → Value → Prop) : List Sc → List Value → Prop
  | [], cs => cs = []
  | .u8 :: r, cs => ∃ (n : Nat) (cs' : List Value), cs = .int .u8 n :: cs' ∧ n < 256 ∧ Fits R r cs'
  | .u16 :: r, cs => ∃ (n : Nat) (cs' : List Value), cs = .int .u16 n :: cs' ∧ n < 256 ^ 2 ∧ Fits R r cs'
  | .u32 :: r, cs => ∃ (n : Nat) (cs' : List Value), cs = .int .u32 n :: cs' ∧ n < 256 ^ 4 ∧ Fits R r cs'
  | .u64 :: r, cs => ∃ (n : Nat) (cs' : List Value), cs = .int .u64 n :: cs' ∧ n < 256 ^ 8 ∧ Fits R r cs'
  | .i64 :: r, cs => ∃ (n : Int) (cs' : List Value), cs = .int .i64 n :: cs' ∧ (Lit.int .i64 n).wf = true ∧ Fits R r cs'
  | .bool :: r, cs => ∃ (b : Bool) (cs' : List Value), cs = .bool b :: cs' ∧ True ∧ Fits R r cs'
  | .str :: r, cs => ∃ (s : ByteArray) (cs' : List Value), cs = .string s :: cs' ∧ s.size ≤ maxLen ∧ Fits R r cs'
  | .raw t :: r, cs => ∃ (v : Value) (cs' : List Value), cs = v :: cs' ∧ R t v ∧ Fits R r cs'
theorem fits_of {R : TypeId → Value → Prop} : ∀ (ss : List Sc) (cs : List Value), cs.length = ss.length → (∀ (i : Nat) (s : Sc), ss[i]? = some s → ∃ v, cs[i]? = some v ∧ s.fit R v) → Fits R ss cs
  | [], cs, h, _ => by simpa [Fits] using h
  | s :: r, [], h, _ => by simp at h
  | s :: r, c :: cs, h, hf => by
    have ih := fits_of (R := R) r cs (by simpa using h) (fun i s' hi => by simpa using hf (i + 1) s' (by simpa using hi))
    obtain ⟨v, hv, hfit⟩ := hf 0 s rfl
    obtain rfl : c = v := by simpa using hv
    cases s with
    | bool => obtain ⟨b, rfl⟩ := hfit; exact ⟨b, cs, rfl, trivial, ih⟩
    | raw t => exact ⟨_, cs, rfl, hfit, ih⟩
    | u8 => obtain ⟨n, rfl, hn⟩ := hfit; exact ⟨n, cs, rfl, hn, ih⟩
    | u16 => obtain ⟨n, rfl, hn⟩ := hfit; exact ⟨n, cs, rfl, hn, ih⟩
    | u32 => obtain ⟨n, rfl, hn⟩ := hfit; exact ⟨n, cs, rfl, hn, ih⟩
    | u64 => obtain ⟨n, rfl, hn⟩ := hfit; exact ⟨n, cs, rfl, hn, ih⟩
    | i64 => obtain ⟨n, rfl, hn⟩ := hfit; exact ⟨n, cs, rfl, hn, ih⟩
    | str => obtain ⟨n, rfl, hn⟩ := hfit; exact ⟨n, cs, rfl, hn, ih⟩
def numbered : Nat → List Sc → List (Nat × Sc)
  | _, [] => []
  | k, s :: r => (k, s) :: numbered (k + 1) r
theorem numbered_mem : ∀ (ss : List Sc) (k i : Nat) (s : Sc), ss[i]? = some s → (k + i, s) ∈ numbered k ss
  | [], k, i, s, h => by simp at h
  | a :: r, k, 0, s, h => by obtain rfl : a = s := by simpa using h
                             simp [numbered]
  | a :: r, k, i + 1, s, h => by
    have := numbered_mem r (k + 1) i s (by simpa using h)
    simp only [numbered, List.mem_cons]
    exact .inr (by rwa [show k + (i + 1) = k + 1 + i by omega])
/-- A struct that came in, laid flat. -/
theorem open_flat {r : Reach} {b0 : Nat} {t : TypeId} {fs : Array Field} {v : Value} {d : DataW H} {p : List MemPlace} (ss : List Sc) (hs : P.underlying t = some (.struct fs)) (hsc : scAt P 8 t 0 = some (numbered 0 ss)) (hC : P.cellsOf t = ss.length)
    (hv : Value.okWide P w r b0 t v) (h : DataW.Trod enc P w base spare held t v d p) :
    ∃ cs : List Value, v = .agg ⟨cs⟩ ∧ Fits (fun t v => ∃ m y, DataW.trod enc P w base spare held m t [v] = some y) ss cs := by
  obtain ⟨cs, rfl, hsz⟩ := okWide_struct hs hv
  obtain ⟨cs⟩ := cs
  obtain ⟨fuel, hf⟩ := h
  refine ⟨cs, rfl, fits_of ss cs (by simpa [hC] using hsz) fun i s hi => ?_⟩
  have hm := numbered_mem ss 0 i s hi
  obtain ⟨_, v, hv, hfit⟩ := scAt_trod 8 hsc (by simpa [Value.cells] using hf) (0 + i) s hm
  exact ⟨v, by simpa using hv, hfit⟩
end
end Go.Proofs.YtienlhnbmobinaaGreat
namespace Go.Proofs.YtienlhnbmobinaaGreat
open Go.RowKit
set_option linter.unusedVariables false
set_option linter.unusedSimpArgs false
section
open Go.ChangeShapes Go.WideShapes Go.Deep
variable {H : Type} {enc : TypeId × Value → H} {P : Program} {w : World} {base : Nat} {spare : Nat → Bool} {held : Bool}
/-- A slice of structs that came in, each laid flat: the cells of those that it has. -/
def IsRows (R : TypeId → Value → Prop) (ss : List Sc) (w : World) (a : Option Addr) (len cap : Nat) : Prop :=
  (a = none ∧ len = 0 ∧ cap = 0) ∨ ∃ x, a = some x ∧ len ≤ cap ∧ cap ≤ maxLen ∧ ∀ i, i < len → ∀ j s, ss[j]? = some s → ∃ v, w.cell? (x.add (i * ss.length + j)) = some v ∧ s.fit R v
theorem open_rows {t e : TypeId} {fs : Array Field} {a : Option Addr} {len cap : Nat} {d : DataW H} {p : List MemPlace} (ss : List Sc) (ht : P.underlying t = some (.slice e)) (he : P.underlying e = some (.struct fs))
    (hsc : scAt P 8 e 0 = some (numbered 0 ss)) (hC : P.cellsOf e = ss.length) (h : DataW.Trod enc P w base (fun _ => true) held t (.slice a len cap) d p) :
    IsRows (fun t v => ∃ m y, DataW.trod enc P w base (fun _ => true) held m t [v] = some y) ss w a len cap := by
  obtain ⟨fuel, hf⟩ := h
  rcases open_slice ht hf with h0 | ⟨x, l, c, m, n, D, Pl, hcs, hb, hl, hm, hmm, hx, hi⟩
  · have h1 : [Value.slice a len cap] = [.slice none 0 0] := h0.1
    simp at h1
    exact .inl h1
  · have h1 : [Value.slice a len cap] = [.slice (some x) l c] := hcs
    simp at h1
    obtain ⟨rfl, rfl, rfl⟩ := h1
    refine .inr ⟨x, rfl, hl, hm, fun i hil j s hs => ?_⟩
    obtain ⟨cs', hc, ht'⟩ := hi i (by rw [hmm]; simp; omega)
    rw [hC] at hc
    obtain ⟨_, hcl, hat⟩ := World.cells?_some hc
    obtain ⟨_, v, hv, hfit⟩ := scAt_trod 8 hsc ht' (0 + j) s (numbered_mem ss 0 j s hs)
    have hj : j < ss.length := (List.getElem?_eq_some_iff.1 hs).1
    have hcell := hat j hj
    refine ⟨v, ?_, hfit⟩
    rw [← Go.Deep.add_add, hcell]
    simpa using hv
end
/-- A list out of what is there for each place. -/
theorem list_of {α : Type} {p : Nat → α → Prop} : ∀ (n : Nat), (∀ i, i < n → ∃ x, p i x) → ∃ L : List α, L.length = n ∧ ∀ i (h : i < L.length), p i L[i]
  | 0, _ => ⟨[], rfl, fun i h => absurd h (Nat.not_lt_zero i)⟩
  | n + 1, h => by
    obtain ⟨L, hl, hp⟩ := list_of (p := p) n (fun i hi => h i (by omega))
    obtain ⟨x, hx⟩ := h n (by omega)
    refine ⟨L ++ [x], by simp [hl], fun i hi => ?_⟩
    by_cases hn : i < L.length
    · rw [List.getElem_append_left hn]
      exact hp i hn
    · have : i = n := by simp at hi; omega
      subst this
      rw [List.getElem_append_right (by omega)]
      simpa [hl] using hx
section
open Go.ChangeShapes Go.WideShapes Go.Deep
variable {H : Type} {enc : TypeId × Value → H} {P : Program} {w : World} {base : Nat} {spare : Nat → Bool} {held : Bool}
theorem weights_mem_all {e : TypeId} : ∀ {ds : List (DataW H)} {j : Nat} {d : DataW H}, ds[j]? = some d → ∀ n ∈ d.weights P e, n ∈ DataW.weightsAll P e ds
  | d0 :: ds, 0, d, hd, n, hn => by
    simp only [List.getElem?_cons_zero, Option.some.injEq] at hd
    subst hd
    simp only [DataW.weightsAll, List.mem_append]
    exact .inl hn
  | d0 :: ds, j + 1, d, hd, n, hn => by
    simp only [List.getElem?_cons_succ] at hd
    simp only [DataW.weightsAll, List.mem_append]
    exact .inr (weights_mem_all hd n hn)
  | [], _, _, hd, _, _ => by simp at hd
/-- A text in a struct laid flat: it is one of those that are weighed. -/
theorem scAt_weight (n : Nat) : ∀ {t : TypeId} {off m : Nat} {cs : List Value} {x : DataW H × List MemPlace} {l : List (Nat × Sc)}, scAt P n t off = some l → DataW.trod enc P w base spare held m t cs = some x →
    ∀ i, (i, Sc.str) ∈ l → ∃ s : ByteArray, cs[i - off]? = some (.string s) ∧ s.size ∈ x.1.weights P t := by
  induction n with
  | zero => intro t off m cs x l h; simp [scAt] at h
  | succ n ih =>
    intro t off m cs x l h ht i his
    unfold scAt at h
    split at h
    case h_7 hu =>
      obtain ⟨k, rfl, rfl, hw⟩ := DataW.trod_string hu ht
      obtain rfl := by simpa using h
      obtain rfl := by simpa using his
      exact ⟨k, by simp, by simp [DataW.weights]⟩
    case h_8 fs hu =>
      obtain ⟨xs, m', _, rfl, hlen, hxl, hf⟩ := DataW.trod_struct hu ht
      obtain ⟨ls, hls, rfl⟩ := Option.map_eq_some_iff.1 h
      obtain ⟨l', hl', hin⟩ := List.mem_flatten.1 his
      obtain ⟨j, hj⟩ := List.getElem?_of_mem hl'
      have hlsl := mapM_some_length hls
      have hjl : j < fs.toList.length := by rw [← hlsl]; exact (List.getElem?_eq_some_iff.1 hj).1
      have hfj : fs.toList[j]? = some fs.toList[j] := List.getElem?_eq_getElem hjl
      have h1 := (mapM_some_get hls j _ hfj).trans hj
      have h2 := hf j _ ((Array.getElem?_toList (xs := fs) (i := j)).symm.trans hfj)
      have hxj : xs[j]? = some (xs[j]'(by rw [hxl]; simpa using hjl)) := List.getElem?_eq_getElem _
      obtain ⟨s, hv, hwt⟩ := ih h1 (h2.trans hxj) i hin
      obtain ⟨ho, _⟩ := scAt_trod n h1 (h2.trans hxj) i .str hin
      refine ⟨s, ?_, ?_⟩
      · rw [List.getElem?_take] at hv
        split at hv
        · rw [List.getElem?_drop] at hv
          rwa [show fs.toList[j].offset + (i - (off + fs.toList[j].offset)) = i - off by omega] at hv
        · simp at hv
      · simp only [DataW.weights, hu]
        exact DataW.weights_mem_each (j := j) (t := fs.toList[j].type) (d := (xs[j]'(by rw [hxl]; simpa using hjl)).1) (by rw [List.getElem?_map, hfj]; rfl) (by rw [List.getElem?_map, hxj]; rfl) _ hwt
    all_goals (first | (simp at h; done) | ((try simp at h); (try subst h); simp at his))
end
end Go.Proofs.YtienlhnbmobinaaGreat
end

section
/- Plain words on numbers in bytes: big-endian bytes of a number, the number of bytes, that the two go back and forth. No program is named here.; Plain words on strings for package key: what two lists begin with alike, their order, and that it is one. No program is named here.; Plain words on rows: which may be. No program is named here.; Plain words on entries: which may be, their bytes, which bytes are one. No program is named here.; Pages as data: which may be, their room. No program is named here.; Nodes as data: their keys, where a key is, what a page is with a text, without one, its parts. No program is named here.; The keys of a node's rows, one by one; they rise. No program is named here.; What a node answers: a key at a place, where a key is, below which child it is. No program is named here.; What a page is with a text at a place, without one; split, merged. No program is named here.; What a page is split into. No program is named here. -/
namespace Go.Proofs.YtienlhnbmobinaaGreat
/-- The k last bytes of n, the greatest first. -/
def be : Nat → Nat → List UInt8
  | 0, _ => []
  | k + 1, n => be k (n / 256) ++ [UInt8.ofNat n]
/-- The number that bytes are, the greatest first. -/
def un (l : List UInt8) : Nat := l.foldl (fun a c => 256 * a + c.toNat) 0
theorem be_length : ∀ k n : Nat, (be k n).length = k
  | 0, _ => rfl
  | k + 1, n => by simp [be, be_length k]
theorem un_snoc (l : List UInt8) (c : UInt8) : un (l ++ [c]) = 256 * un l + c.toNat := by simp [un]
theorem u8_ofNat (n : Nat) : (UInt8.ofNat n).toNat = n % 256 := by simp
theorem un_be : ∀ k n : Nat, un (be k n) = n % 256 ^ k
  | 0, n => by simp [be, un, Nat.mod_one]
  | k + 1, n => by
    rw [be, un_snoc, un_be k, u8_ofNat, Nat.pow_succ, Nat.mul_comm (256 ^ k) 256, Nat.mod_mul]
    omega
theorem un_be_fits (k n : Nat) (h : n < 256 ^ k) : un (be k n) = n := by rw [un_be, Nat.mod_eq_of_lt h]
theorem snoc_cases (l : List UInt8) : l = [] ∨ ∃ i c, l = i ++ [c] := by
  rcases List.eq_nil_or_concat l with h | ⟨i, c, h⟩
  · exact .inl h
  · exact .inr ⟨i, c, by simpa using h⟩
theorem un_lt : ∀ (n : Nat) (l : List UInt8), l.length = n → un l < 256 ^ n := by
  intro n
  induction n with
  | zero => intro l h; rw [List.length_eq_zero_iff.1 h]; simp [un]
  | succ n ih =>
    intro l h
    rcases snoc_cases l with rfl | ⟨i, c, rfl⟩
    · simp at h
    · have := ih i (by simpa using h)
      have hc := c.toNat_lt
      rw [un_snoc, Nat.pow_succ]
      omega
theorem be_un : ∀ (n : Nat) (l : List UInt8), l.length = n → be n (un l) = l := by
  intro n
  induction n with
  | zero => intro l h; rw [List.length_eq_zero_iff.1 h]; rfl
  | succ n ih =>
    intro l h
    rcases snoc_cases l with rfl | ⟨i, c, rfl⟩
    · simp at h
    · have hc := c.toNat_lt
      have hi := ih i (by simpa using h)
      rw [be, un_snoc, show (256 * un i + c.toNat) / 256 = un i by omega, hi]
      congr 2
      rw [← UInt8.toNat_inj, u8_ofNat]
      omega
end Go.Proofs.YtienlhnbmobinaaGreat
namespace Go.Proofs.YtienlhnbmobinaaGreat
open Go.Lib (compareBytes)
end Go.Proofs.YtienlhnbmobinaaGreat
namespace Go.Proofs.YtienlhnbmobinaaGreat
/-- Which rows may be: key's and value's lengths, roll's page and slot, pad. -/
def MayRow (k v p s : Nat) (d : Int) : Prop := 1 ≤ k ∧ k ≤ 48 ∧ 0 ≤ d ∧ d ≤ 96 ∧ (v : Int) + d ≤ 96 ∧ p ≤ 1024 ∧ (0 < p ∨ s = 0)
instance (k v p s : Nat) (d : Int) : Decidable (MayRow k v p s d) := by unfold MayRow; infer_instance
def mayRow (k v p s : Nat) (d : Int) : Bool := decide (MayRow k v p s d)
theorem mayRow_iff {k v p s : Nat} {d : Int} : mayRow k v p s d = true ↔ 1 ≤ k ∧ k ≤ 48 ∧ 0 ≤ d ∧ d ≤ 96 ∧ (v : Int) + d ≤ 96 ∧ p ≤ 1024 ∧ (0 < p ∨ s = 0) := by unfold mayRow; rw [decide_eq_true_iff]; exact Iff.rfl
/-- A row's bytes. -/
def encRow (k v : List UInt8) (m : Bool) (t p s d : Nat) : List UInt8 :=
  (if m then 1 else 0) :: (be 8 t ++ be 4 p ++ be 2 s ++ be 1 k.length ++ k ++ be 1 v.length ++ v ++ List.replicate d 0)
/-- What a reading of k bytes at a place gives: their number, or 0. -/
def rdNum (s : List UInt8) (i k : Nat) : Nat := if i + k ≤ s.length then un ((s.drop i).take k) else 0
/-- What a reading of a piece of n bytes at a place gives: it, or nothing. -/
def rdText (s : List UInt8) (i n : Nat) : List UInt8 := if i + n ≤ s.length then (s.drop i).take n else []
/-- What row.Decode reads, step by step: whether the first four numbers are there; key's length, key, where the value's length stands; value's length, value, where it ends; pad; whether all is there; whether it is a row. -/
def rd4 (n : Nat) : Bool := (((true && decide (0 + 1 ≤ n)) && decide (1 + 8 ≤ n)) && decide (9 + 4 ≤ n)) && decide (13 + 2 ≤ n)
def dKn (l : List UInt8) : Nat := rdNum l 15 1
def dK (l : List UInt8) : List UInt8 := rdText l (15 + 1) (dKn l)
def dA (l : List UInt8) : Nat := 15 + 1 + dKn l
def dVn (l : List UInt8) : Nat := rdNum l (dA l) 1
def dV (l : List UInt8) : List UInt8 := rdText l (dA l + 1) (dVn l)
def dE (l : List UInt8) : Nat := dA l + 1 + dVn l
def dPad (l : List UInt8) : Int := (l.length : Int) - (dE l : Int)
def dIs (l : List UInt8) : Bool :=
  ((rd4 l.length && decide (15 + 1 ≤ l.length)) && decide (dA l ≤ l.length)) && decide (dA l + 1 ≤ l.length) && decide (dE l ≤ l.length)
def decMay (l : List UInt8) : Bool := mayRow (dK l).length (dV l).length (rdNum l 9 4) (rdNum l 13 2) (dPad l)
def decEnc (l : List UInt8) : List UInt8 := encRow (dK l) (dV l) (decide (0 < rdNum l 0 1)) (rdNum l 1 8) (rdNum l 9 4) (rdNum l 13 2) (dPad l).toNat
def decOk (l : List UInt8) : Bool := dIs l && (decMay l && (decEnc l == l))
end Go.Proofs.YtienlhnbmobinaaGreat
namespace Go.Proofs.YtienlhnbmobinaaGreat
end Go.Proofs.YtienlhnbmobinaaGreat
namespace Go.Proofs.YtienlhnbmobinaaGreat
/-- A page, as data. -/
structure Pg where
  kind : Nat
  level : Nat
  id : Nat
  lsn : Nat
  next : Nat
  rows : List (List UInt8)
  deriving DecidableEq
/-- No page. -/
def Pg.zero : Pg := ⟨0, 0, 0, 0, 0, []⟩
/-- What rows weigh: four bytes of the directory each besides. -/
def weightB (rows : List (List UInt8)) : Nat := (rows.map fun r => 4 + r.length).sum
/-- A page's head is one that may be. -/
def headOk (kind id next : Nat) : Bool := decide (kind ≤ 5 ∧ 1 ≤ id ∧ id ≤ 1024 ∧ next ≤ 1024)
theorem headOk_iff {kind id next : Nat} : headOk kind id next = true ↔ kind ≤ 5 ∧ 1 ≤ id ∧ id ≤ 1024 ∧ next ≤ 1024 := by unfold headOk; rw [decide_eq_true_iff]
/-- Which pages may be. -/
def Pg.may (p : Pg) : Bool := headOk p.kind p.id p.next && decide (weightB p.rows ≤ 484)
theorem weightB_nil : weightB [] = 0 := rfl
theorem weightB_cons (r : List UInt8) (rows : List (List UInt8)) : weightB (r :: rows) = 4 + r.length + weightB rows := by simp [weightB]
theorem weightB_append (a b : List (List UInt8)) : weightB (a ++ b) = weightB a + weightB b := by simp [weightB, List.sum_append]
theorem weightB_take (rows : List (List UInt8)) (k : Nat) (h : k < rows.length) : weightB (rows.take (k + 1)) = weightB (rows.take k) + (4 + rows[k].length) := by
  rw [List.take_succ_eq_append_getElem h, weightB_append, weightB_cons, weightB_nil]
  omega
theorem weightB_take_le (rows : List (List UInt8)) (k : Nat) : weightB (rows.take k) ≤ weightB rows := by
  conv => rhs; rw [← List.take_append_drop k rows, weightB_append]
  omega
theorem weightB_mem {rows : List (List UInt8)} {r : List UInt8} (h : r ∈ rows) : 4 + r.length ≤ weightB rows := by
  induction rows with
  | nil => cases h
  | cons x rest ih =>
    rw [weightB_cons]
    rcases List.mem_cons.1 h with rfl | h
    · omega
    · have := ih h; omega
theorem weightB_length (rows : List (List UInt8)) : 4 * rows.length ≤ weightB rows := by
  induction rows with
  | nil => simp
  | cons x rest ih => rw [weightB_cons, List.length_cons]; omega
end Go.Proofs.YtienlhnbmobinaaGreat
namespace Go.Proofs.YtienlhnbmobinaaGreat
open Go.Lib (compareBytes)
end Go.Proofs.YtienlhnbmobinaaGreat
namespace Go.Proofs.YtienlhnbmobinaaGreat
open Go.Lib (compareBytes)
end Go.Proofs.YtienlhnbmobinaaGreat
namespace Go.Proofs.YtienlhnbmobinaaGreat
open Go.Lib (compareBytes)
end Go.Proofs.YtienlhnbmobinaaGreat
namespace Go.Proofs.YtienlhnbmobinaaGreat
open Go.Lib (compareBytes)
def putRows (rows : List (List UInt8)) (i : Nat) (x : List UInt8) (is : Bool) : List (List UInt8) := rows.take i ++ x :: rows.drop (if is then i + 1 else i)
def Pg.with (p : Pg) (rows : List (List UInt8)) : Pg := ⟨p.kind, p.level, p.id, p.lsn, p.next, rows⟩
end Go.Proofs.YtienlhnbmobinaaGreat
namespace Go.Proofs.YtienlhnbmobinaaGreat
open Go.Lib (compareBytes)
end Go.Proofs.YtienlhnbmobinaaGreat
end
