/- slices.Sort, slices.Compact at uint32. -/
import Derived.Test.YtjcfnfpilladfaaRows
import Derived.Test.YtjcfnfpilladfaaShelf
import Derived.Test.YtjcfnfpilladfaaS32A
import Derived.Test.YtjcfnfpilladfaaS32B
import Derived.Test.YtjcfnfpilladfaaS32C
import Derived.Test.YtjcfnfpilladfaaBase
import Derived.Deep.LoopGhost
import Derived.Deep.CutBlock
import Derived.Sort.LotA
import Derived.Sort.LotD3
import Derived.Sort.WalkA
import Derived.Sort.LotC
import Derived.Sort.LotB
import Derived.WalkKit
import Derived.WalkLawsBesides
import Derived.WalkSpells
import Derived.LoopTactic
import Derived.WalkMore
import Derived.LoopN
import Derived.Laws.BitsAllLaws
import Derived.Laws.IdiomStrings
import Derived.BigQuiet
import Derived.Deep.QuietTactic
import Derived.Deep.DeepCutAuto
import Derived.Deep.RegionHeld3
import Derived.Deep.DrawnRows
import Derived.Lib.Hide
import Derived.Outline
import Derived.Deep.DeepMust
import Derived.Handy
import Derived.Lib.SliceRun
namespace Go.Proofs.Ytjcfnfpilladfaa
open Go.RowKit
set_option linter.unusedVariables false
set_option linter.unusedSimpArgs false


theorem bitlen_le (l : Nat) (h0 : 0 < l) (hn : l ≤ 1000000) : Lib.bitLen l ≤ 20 := by
  have h := bitlen_two l h0 hn
  generalize Lib.bitLen l = L at *
  rcases Nat.lt_or_ge 20 L with hc | hc
  · have := Nat.pow_le_pow_right (show 0 < 2 by decide) (show 21 ≤ L by omega)
    have e2 : (2 : Nat) ^ 21 = 2097152 := by decide
    omega
  · exact hc

set_option maxHeartbeats 4000000 in
set_option maxRecDepth 100000 in
theorem insertion_none (b : Option Addr) (cp : Nat) (w : World) :
    Calls Try.prog 141 #[.slice b 0 cp, .int .i64 0, .int .i64 0] w fun e w' => e = .returned (.tuple #[]) ∧ w' = w := by
  go_enter Try.func141, Try.ntmps141
  go_wp2_with fail
  go_loopw [6] (fun s6 wr => s6 = .int .i64 1 ∧ wr = w) (fun _ _ => 0)
  case atStart => exact ⟨rfl, rfl⟩
  case round =>
    obtain ⟨rfl, rfl⟩ := hrel
    go_wp2_with fail
    go_end0
    exact ⟨rfl, rfl⟩

set_option maxHeartbeats 4000000 in
set_option maxRecDepth 100000 in
theorem pdq_none (b : Option Addr) (cp : Nat) (w : World) :
    Calls Try.prog 121 #[.slice b 0 cp, .int .i64 0, .int .i64 0, .int .i64 0] w fun e w' => e = .returned (.tuple #[]) ∧ w' = w := by
  have INS := Lib.hid insertion_none
  go_enter Try.func121, Try.ntmps121
  go_wp2_with fail
  go_loopw [1, 2, 3, 8, 9] (fun s1 s2 s3 s8 s9 wr => s1 = .int .i64 0 ∧ s2 = .int .i64 0 ∧ s3 = .int .i64 0 ∧ s8 = .bool true ∧ s9 = .bool true ∧ wr = w) (fun _ _ _ _ _ _ => 0)
  case atStart => exact ⟨rfl, rfl, rfl, rfl, rfl, rfl⟩
  case round =>
    obtain ⟨rfl, rfl, rfl, rfl, rfl, rfl⟩ := hrel
    go_wp2_with fail
    refine (INS.out b cp _).mono ?_
    rintro e w1 ⟨rfl, rfl⟩
    go_wp2_with fail
    (try simp only [Exit.inBlock, Exit.then]); refine bodyPost_ret (results_none rfl _ _ _) rfl ?_
    exact ⟨rfl, rfl⟩

set_option maxHeartbeats 4000000 in
set_option maxRecDepth 100000 in
/-- An empty slice stays. -/
theorem sort_none (b : Option Addr) (cp : Nat) (w : World) :
    Calls Try.prog 92 #[.slice b 0 cp] w fun e w' => e = .returned (.tuple #[]) ∧ w' = w := by
  have hL : ∀ W, Calls Try.prog 122 #[.int .u64 0] W fun e w' => e = .returned (.int .i64 0) ∧ w' = W := fun W => by
    have h := Try.bits_Len 0 W (by omega) (by omega)
    exact h
  have PD := Lib.hid pdq_none
  go_enter Try.func92, Try.ntmps92
  go_wp2_with (first | (go_at_call 122; refine (hL _).mono ?_; rintro e w' ⟨rfl, rfl⟩))
  refine (PD.out b cp _).mono ?_
  rintro e w1 ⟨rfl, rfl⟩
  go_wp2_with fail
  go_end0
  exact ⟨rfl, rfl⟩

set_option maxHeartbeats 4000000 in
set_option maxRecDepth 100000 in
/-- slices.Sort sorts. -/
theorem sort_row (base g n cp : Nat) (d : Array Nat) (w : World) (h0 : 0 < n) (hn : n ≤ 1000000) (h : RowU w base g n cp d) :
    Calls Try.prog 92 #[.slice (some ⟨g, 0, none⟩) n cp] w fun e w' => ∃ d', e = .returned (.tuple #[]) ∧ (Go.Sort.PermIn 0 n d d' ∧ Go.Sort.SortedIn ltN 0 n d') ∧ RowU w' base g n cp d' ∧ OthersKept w w' (fun k => k = g) := by
  have hL : ∀ W, Calls Try.prog 122 #[.int .u64 (n : Int)] W fun e w' => e = .returned (.int .i64 (Lib.bitLen n : Nat)) ∧ w' = W := fun W => by
    have h := Try.bits_Len (n : Int) W (by omega) (by omega)
    rwa [Int.toNat_natCast] at h
  have hk := bitlen_le n h0 hn
  have PD := Lib.hid (pdq_u64 base g n cp hn (n + 1) 0 n (Lib.bitLen n) d w (by omega) (by omega) (Nat.le_refl _) (by omega) (.inl rfl) h)
  clear h
  generalize Lib.bitLen n = L at *
  go_enter Try.func92, Try.ntmps92
  go_wp2_with (first | (go_at_call 122; refine (hL _).mono ?_; rintro e w' ⟨rfl, rfl⟩))
  refine (PD.out).mono ?_
  rintro e w1 ⟨d', rfl, h1, h2, h3⟩
  go_wp2_with fail
  go_end0
  exact ⟨d', rfl, h1, h2, h3⟩

theorem permIn_list {d d' : Array Nat} {n : Nat} (hs : d.size = n) (h : Go.Sort.PermIn 0 n d d') : d'.toList.Perm d.toList := by
  have hp := h.2.2
  have e1 : d'.extract 0 n = d' := by rw [← hs, ← h.1]; simp
  have e2 : d.extract 0 n = d := by rw [← hs]; simp
  rwa [e1, e2] at hp
theorem sortedIn_list {d : Array Nat} {n : Nat} (hs : d.size = n) (h : Go.Sort.SortedIn ltN 0 n d) : d.toList.Pairwise (· ≤ ·) := by
  rw [List.pairwise_iff_getElem]
  intro i j hi hj hij
  have := h i j (Nat.zero_le _) hij (by simpa [hs] using hj)
  have hi2 : i < d.size := by simpa using hi
  have hj2 : j < d.size := by simpa using hj
  simp only [ltN, decide_eq_false_iff_not, Nat.not_lt] at this
  rw [getElem!_pos d i hi2, getElem!_pos d j hj2] at this
  simpa using this

/-- slices.Sort of any owned row of numbers. -/
theorem sort_u64 (base n : Nat) (v : Value) (xs : List Nat) (w : World) (hn : n ≤ 1000000) (h : w.ownsRow base 23 1 v n (nums xs)) :
    Calls Try.prog 92 #[v] w fun e w' => ∃ ys : List Nat, e = .returned (.tuple #[]) ∧ ys.Perm xs ∧ ys.Pairwise (· ≤ ·) ∧ w'.ownsRow base 23 1 v n (nums ys) ∧ OthersKept w w' (fun k => v.ownBlock = some k) := by
  obtain ⟨b, cp, rfl, h1, h2, h3⟩ := own_form h
  have hlen : xs.length = n := by have := h.1; simpa [nums] using this
  rcases Nat.eq_zero_or_pos n with h0 | h0
  · have hx : xs = [] := List.eq_nil_of_length_eq_zero (by omega)
    subst hx
    rw [h0] at h ⊢
    refine (sort_none b cp w).mono ?_
    rintro e w1 ⟨rfl, rfl⟩
    exact ⟨[], rfl, List.Perm.refl _, List.Pairwise.nil, h, OthersKept.of_below (Below.refl _ _)⟩
  · obtain ⟨g, rfl, hb⟩ := h3 h0
    have hR : RowU w base g n cp xs.toArray := ⟨by simpa using hlen, by simpa using h⟩
    refine (sort_row base g n cp xs.toArray w h0 hn hR).mono ?_
    rintro e w1 ⟨d', rfl, ⟨hp, hs⟩, hR1, hK1⟩
    refine ⟨d'.toList, rfl, by simpa using permIn_list hR.size hp, sortedIn_list hR1.size hs, hR1.own, ?_⟩
    exact ⟨hK1.os, hK1.tape, hK1.output, hK1.size, fun k hk hp => hK1.block k hk (fun e => hp (by subst e; rfl))⟩

theorem OthersKept.mono {w w' : World} {p q : Nat → Prop} (h : OthersKept w w' p) (hq : ∀ k, p k → q k) : OthersKept w w' q :=
  ⟨h.os, h.tape, h.output, h.size, fun k hk hn => h.block k hk (fun hp => hn (hq k hp))⟩
theorem RowU.clear {base g n cp : Nat} : ∀ (k i : Nat) (d : Array Nat) (w : World), RowU w base g n cp d → i + k ≤ n →
    ∃ d', RowU (w.setCells g i (List.replicate k (.int .u32 0))) base g n cp d' ∧ (∀ t, t < i → d'[t]! = d[t]!) ∧ OthersKept w (w.setCells g i (List.replicate k (.int .u32 0))) (fun k => k = g)
  | 0, i, d, w, h, _ => ⟨d, h, fun _ _ => rfl, OthersKept.of_below (Below.refl _ _)⟩
  | k + 1, i, d, w, h, hk => by
    obtain ⟨d', h1, h2, h3⟩ := RowU.clear k (i + 1) (d.setIfInBounds i 0) (w.setCell ⟨g, i, none⟩ (.int .u32 (0 : Nat))) (h.set i 0 (by omega)) (by omega)
    refine ⟨d', h1, fun t ht => ?_, (OthersKept.of_grown (p := fun k => k = g) (g := g) (grown_set (grown_refl _ _)) rfl).trans h3 (fun _ _ h => h)⟩
    rw [h2 t (by omega), Go.Sort.getElem!_set_other d i t 0 (by omega)]
theorem RowU.cut {w : World} {base g n cp : Nat} {d : Array Nat} (h : RowU w base g n cp d) (m : Nat) (hm : m ≤ n) : w.ownsRow base 23 1 (.slice (some ⟨g, 0, none⟩) m cp) m (nums (d.toList.take m)) := by
  obtain ⟨cur, h1, h2, h3, h4, h5, h6⟩ := h.blk
  refine ⟨by simp [nums, h.size]; omega, .inr ⟨g, cp, cur, rfl, h2, h1, by omega, h4, by simpa using h5, ?_⟩⟩
  rw [Nat.mul_one]
  have : cur.toList.take m = (cur.toList.take n).take m := by rw [List.take_take, Nat.min_eq_left hm]
  rw [this, h6]
  unfold nums
  rw [List.map_take]

theorem zero_u64 (w : World) : (zeroValue 23).run Try.prog w = .ok (.int .u32 0) w := by kernel_rfl


/-- What a compaction has come to: k numbers stand for the first q. -/
structure Cmp (d dk : Array Nat) (n k q : Nat) : Prop where
  k0 : 0 < k
  kq : k ≤ q
  qn : q ≤ n
  size : dk.size = n
  dsize : d.size = n
  rise : ∀ i j, i < j → j < k → dk[i]! < dk[j]!
  frm : ∀ i, i < k → ∃ j, j < q ∧ dk[i]! = d[j]!
  bck : ∀ j, j < q → ∃ i, i < k ∧ dk[i]! = d[j]!
  rest : ∀ t, q ≤ t + 1 → dk[t]! = d[t]!
  last : ∀ i, i < k → dk[i]! ≤ d[q - 1]!
theorem Cmp.start {d : Array Nat} {n : Nat} (hs : d.size = n) (hn : 0 < n) : Cmp d d n 1 1 :=
  ⟨by omega, Nat.le_refl _, hn, hs, hs, fun i j h1 h2 => by omega, fun i hi => ⟨i, hi, rfl⟩, fun j hj => ⟨j, hj, rfl⟩, fun t _ => rfl, fun i hi => by rw [show i = 0 by omega]; exact Nat.le_refl _⟩
theorem Cmp.same {d dk : Array Nat} {n k q : Nat} (h : Cmp d dk n k q) (hq : q < n) (he : d[q]! = d[q - 1]!) : Cmp d dk n k (q + 1) := by
  refine ⟨h.k0, by have := h.kq; omega, hq, h.size, h.dsize, h.rise, fun i hi => ?_, fun j hj => ?_, fun t ht => h.rest t (by omega), fun i hi => ?_⟩
  · obtain ⟨j, hj, e⟩ := h.frm i hi
    exact ⟨j, by omega, e⟩
  · by_cases e : j = q
    · subst e
      obtain ⟨i, hi, e2⟩ := h.bck (j - 1) (by have := h.k0; have := h.kq; omega)
      exact ⟨i, hi, by rw [e2, he]⟩
    · exact h.bck j (by omega)
  · rw [Nat.add_sub_cancel, he]
    exact h.last i hi
theorem Cmp.new {d dk dk2 : Array Nat} {n k q : Nat} (h : Cmp d dk n k q) (hq : q < n) (hle : d[q - 1]! < d[q]!) (hs2 : dk2.size = n) (hk : dk2[k]! = d[q]!) (ho : ∀ t, t ≠ k → dk2[t]! = dk[t]!) : Cmp d dk2 n (k + 1) (q + 1) := by
  have hlt : ∀ i, i < k → dk2[i]! < d[q]! := fun i hi => by rw [ho i (by omega)]; exact Nat.lt_of_le_of_lt (h.last i hi) hle
  have hkq := h.kq
  refine ⟨by omega, by omega, hq, hs2, h.dsize, fun i j hij hj => ?_, fun i hi => ?_, fun j hj => ?_, fun t ht => ?_, fun i hi => ?_⟩
  · by_cases e : j = k
    · subst e
      rw [hk]
      exact hlt i hij
    · rw [ho i (by omega), ho j e]
      exact h.rise i j hij (by omega)
  · by_cases e : i = k
    · exact ⟨q, by omega, by rw [e, hk]⟩
    · obtain ⟨j, hj, e2⟩ := h.frm i (by omega)
      exact ⟨j, by omega, by rw [ho i e, e2]⟩
  · by_cases e : j = q
    · exact ⟨k, by omega, by rw [e, hk]⟩
    · obtain ⟨i, hi, e2⟩ := h.bck j (by omega)
      exact ⟨i, by omega, by rw [ho i (by omega), e2]⟩
  · by_cases e : t = k
    · rw [e, hk, show q = k by omega]
    · rw [ho t e]
      exact h.rest t (by omega)
  · rw [Nat.add_sub_cancel]
    by_cases e : i = k
    · rw [e, hk]; exact Nat.le_refl _
    · exact Nat.le_of_lt (hlt i (by omega))
theorem Cmp.keep {d : Array Nat} {n k : Nat} (h : Cmp d d n k k) (hq : k < n) (hle : d[k - 1]! < d[k]!) : Cmp d d n (k + 1) (k + 1) := h.new hq hle h.size rfl (fun _ _ => rfl)
theorem Cmp.put {d dk : Array Nat} {n k q : Nat} (h : Cmp d dk n k q) (hq : q < n) (hle : d[q - 1]! < d[q]!) : Cmp d (dk.setIfInBounds k d[q]!) n (k + 1) (q + 1) :=
  h.new hq hle (by simp [h.size]) (by have := h.kq; rw [Go.Sort.getElem!_set_same dk k _ (by rw [h.size]; omega)]) (fun t ht => Go.Sort.getElem!_set_other dk k t _ ht)
/-- The list behind a compaction. -/
theorem Cmp.done {d dk d' : Array Nat} {n k : Nat} (h : Cmp d dk n k n) (hs : d'.size = n) (he : ∀ t, t < k → d'[t]! = dk[t]!) : (d'.toList.take k).Pairwise (· < ·) ∧ ∀ z, z ∈ d'.toList.take k ↔ z ∈ d.toList := by
  have hkn := h.kq
  have hg : ∀ t (ht : t < k), ∃ h2 : t < (d'.toList.take k).length, (d'.toList.take k)[t] = dk[t]! := fun t ht => ⟨by simp [hs]; omega, by
    rw [List.getElem_take, ← he t ht, getElem!_pos d' t (by omega)]
    simp⟩
  have hl : (d'.toList.take k).length = k := by simp [hs]; omega
  constructor
  · rw [List.pairwise_iff_getElem]
    intro i j hi hj hij
    rw [hl] at hi hj
    obtain ⟨_, e1⟩ := hg i hi
    obtain ⟨_, e2⟩ := hg j hj
    rw [e1, e2]
    exact h.rise i j hij hj
  · intro z
    constructor
    · intro hz
      obtain ⟨t, ht, rfl⟩ := List.getElem_of_mem hz
      rw [hl] at ht
      obtain ⟨_, e1⟩ := hg t ht
      obtain ⟨j, hj, e2⟩ := h.frm t ht
      rw [e1, e2, getElem!_pos d j (by rw [h.dsize]; omega)]
      simp
    · intro hz
      obtain ⟨j, hj, rfl⟩ := List.getElem_of_mem hz
      simp [h.dsize] at hj
      obtain ⟨i, hi, e2⟩ := h.bck j hj
      obtain ⟨h2, e1⟩ := hg i hi
      rw [getElem!_pos d j (by rw [h.dsize]; omega)] at e2
      have : d.toList[j]'(by simp [h.dsize]; omega) = (d'.toList.take k)[i] := by rw [e1, e2]; simp
      rw [this]
      exact List.getElem_mem h2


/-- A slice of numbers that can be read. -/
def NumsAt (w : World) (sv : Value) (xs : List Nat) : Prop :=
  ∃ A cp, sv = .slice A xs.length cp ∧ xs.length ≤ cp ∧ cp ≤ maxLen ∧ (A = none → xs = [] ∧ cp = 0) ∧ (0 < xs.length → ∃ b o, A = some ⟨b, o, none⟩ ∧ b < w.heap.size ∧ ∀ j (h : j < xs.length), w.cell? ⟨b, o + j, none⟩ = some (.int .u32 (xs[j] : Nat)))
theorem NumsAt.below {w w' : World} {sv : Value} {xs : List Nat} (h : NumsAt w sv xs) (hb : Below w.heap.size w w') : NumsAt w' sv xs := by
  obtain ⟨A, cp, h1, h2, h3, h4, h5⟩ := h
  refine ⟨A, cp, h1, h2, h3, h4, fun h0 => ?_⟩
  obtain ⟨b, o, h6, h7, h8⟩ := h5 h0
  exact ⟨b, o, h6, Nat.lt_of_lt_of_le h7 hb.size, fun j hj => keep_cell hb (h8 j hj)⟩
theorem nums_length (xs : List Nat) : (nums xs).length = xs.length := by simp [nums]
theorem nums_get (xs : List Nat) (j : Nat) (h : j < xs.length) : (nums xs)[j]? = some (.int .u32 (xs[j] : Nat)) := by
  unfold nums
  rw [List.getElem?_map, List.getElem?_eq_getElem h]
  rfl
theorem nums_own {w : World} {base n : Nat} {v : Value} {xs : List Nat} (h : w.ownsRow base 23 1 v n (nums xs)) : NumsAt w v xs ∧ xs.length = n := by
  have hl : xs.length = n := by have := h.1; simpa [nums] using this
  refine ⟨?_, hl⟩
  subst hl
  rcases h.2 with ⟨rfl, h0⟩ | ⟨g, cap, cur, rfl, hb, hg, h1, h2, _⟩
  · exact ⟨none, 0, by rw [h0], by omega, Nat.zero_le _, fun _ => ⟨List.eq_nil_of_length_eq_zero h0, rfl⟩, fun h => by omega⟩
  · refine ⟨_, cap, rfl, h1, h2, fun h => by (cases h), fun _ => ⟨g, 0, rfl, blk_lt hg, fun j hj => ?_⟩⟩
    rw [Nat.zero_add]
    exact own_cell h j _ (nums_get xs j hj)
theorem NumsAt.reads {w : World} {sv : Value} {xs : List Nat} (h : NumsAt w sv xs) : Reads w sv xs.length 1 (nums xs) := by
  obtain ⟨A, cp, rfl, h2, h3, h4, h5⟩ := h
  rcases Nat.eq_zero_or_pos xs.length with h0 | h0
  · obtain rfl := List.eq_nil_of_length_eq_zero h0
    cases A with
    | none => obtain ⟨_, rfl⟩ := h4 rfl; exact .inl ⟨rfl, rfl, rfl⟩
    | some a => exact .inr ⟨a, cp, rfl, rfl, fun j u hu => by simp [nums] at hu⟩
  · obtain ⟨b, o, rfl, _, hc⟩ := h5 h0
    refine .inr ⟨_, cp, rfl, by simp [nums], fun j u hu => ?_⟩
    have hj : j < xs.length := by
      have := (List.getElem?_eq_some_iff.1 hu).1
      simpa [nums] using this
    rw [nums_get xs j hj] at hu
    injection hu with hu
    rw [← hu, Addr.add_lit]
    exact hc j hj



set_option maxHeartbeats 4000000 in
set_option maxRecDepth 100000 in
theorem compact_u64 (base n : Nat) (v : Value) (xs : List Nat) (w : World) (hn : n ≤ 1000000) (h : w.ownsRow base 23 1 v n (nums xs)) (hs : xs.Pairwise (· ≤ ·)) :
    Calls Try.prog 93 #[v] w fun e w' => ∃ v', e = .returned v' ∧ ∃ ys : List Nat, ys.length ≤ n ∧ ys.Pairwise (· < ·) ∧ (∀ z, z ∈ ys ↔ z ∈ xs) ∧ w'.ownsRow base 23 1 v' ys.length (nums ys) ∧ OthersKept w w' (fun k => base ≤ k) := by
  obtain ⟨hN, hlen⟩ := nums_own h
  have H := Lib.hid h
  obtain ⟨b, cp, rfl, r1, r2, r3⟩ := own_form h
  unfold maxLen at r2
  clear hN h
  rcases Nat.lt_or_ge n 2 with h2 | h2
  · have h2i : (n : Int) < 2 := by omega
    have hp : xs.Pairwise (· < ·) := by
      match xs, hlen with
      | [], _ => exact List.Pairwise.nil
      | [a], _ => exact List.pairwise_singleton _ _
      | a :: b :: l, hl => simp at hl; omega
    have HP := Lib.hid hp
    have HL := Lib.hid hlen
    clear hp hlen hs
    go_enter Try.func93, Try.ntmps93
    go_wp2_with fail
    go_ret
    exact ⟨_, rfl, xs, by rw [HL.out]; exact Nat.le_refl _, HP.out, fun z => Iff.rfl, by rw [HL.out]; exact H.out, OthersKept.of_below (Below.refl _ _)⟩
  · have h2i : ¬ (n : Int) < 2 := by omega
    obtain ⟨g, rfl, hbg⟩ := r3 (by omega)
    have hR : RowU w base g n cp xs.toArray := ⟨by simpa using hlen, by simpa using H.out⟩
    have SRT : Hid (∀ i j, i < j → j < n → xs.toArray[i]! ≤ xs.toArray[j]!) := by
      show ∀ _, _
      intro i j hij hj
      rw [getElem!_pos xs.toArray i (by simp; omega), getElem!_pos xs.toArray j (by simp; omega)]
      simpa using List.pairwise_iff_getElem.1 hs i j (by omega) (by omega) hij
    generalize hd : xs.toArray = d at *
    have HD := Lib.hid hd
    have HR := Lib.hid hR
    have hdn : d.size = n := hR.size
    clear hd hR r3 hlen hs
    go_enter Try.func93, Try.ntmps93
    go_wp2_with fail
    go_loopw [3] (fun s3 wr => ∃ k : Nat, s3 = .int .i64 k ∧ 1 ≤ k ∧ k ≤ n ∧ Hid (Cmp d d n k k) ∧ RowU wr base g n cp d ∧ Below w.heap.size w wr) (fun vk _ => n - (intOf vk).toNat)
    case atStart => exact ⟨1, rfl, Nat.le_refl _, by omega, Cmp.start hdn (by omega), HR.out, Below.refl _ _⟩
    case round =>
      obtain ⟨k, rfl, hk1, hkn, hC, hR, hB⟩ := hrel
      have HR1 := Lib.hid hR
      have HB1 := Lib.hid hB
      clear hB
      by_cases hc : k < n
      · have hci : (k : Int) < (n : Int) := by omega
        obtain ⟨km, hkm⟩ : ∃ x, x = k - 1 := ⟨_, rfl⟩
        have m1 := wsub1 k km (by omega) (by omega)
        have hkm1 : km + 1 = k := by omega
        have hgl := hR.lt
        have e1 := ext_cell (hR.cell k hc) hgl
        have e2 := ext_cell (hR.cell km (by omega)) hgl
        have q1 : (0 : Int) ≤ (k : Int) := by omega
        have q3 : (0 : Int) ≤ (km : Int) := by omega
        have q4 : (km : Int) < (n : Int) := by omega
        have NEW : Hid (¬ d[k]! = d[km]! → Cmp d d n (k + 1) (k + 1)) := by
          show _ → _
          intro hne
          have := SRT.out km k (by omega) hc
          exact hC.out.keep hc (by rw [← hkm]; omega)
        have DUP : Hid (d[k]! = d[km]! → Cmp d d n k (k + 1)) := by
          show _ → _
          intro he
          exact hC.out.same hc (by rw [← hkm]; exact he)
        clear hR hkm
        generalize d[k]! = x at *
        generalize d[km]! = y at *
        by_cases hxy : x = y
        · have DUP2 := Lib.hid (DUP.out hxy)
          subst hxy
          clear DUP NEW
          go_upto_region 6 with fail
          refine wp_region_ext wr.heap.size (by kernel_rfl) (by kernel_rfl) ?_
          repeat (go_big_quiet_step (fail))
          refine wpQuiet_nil ?_
          rintro _ ⟨X, rfl⟩
          have HX := Lib.hid X.below
          have HR2 := Lib.hid (HR1.out.below HX.out)
          have HK2 := Lib.hid (OthersKept.of_below (p := fun k => k = g) (below_trans2 HB1.out HX.out))
          generalize X.val = W2 at *
          clear e1 e2 HB1 HR1
          go_wp2_with fail
          go_loopw [3, 5] (fun s3 s5 wr => ∃ (c t : Nat) (dk : Array Nat), s3 = .int .i64 c ∧ s5 = .int .i64 t ∧ 1 ≤ t ∧ k + t ≤ n ∧ c < k + t ∧ Hid (Cmp d dk n c (k + t)) ∧ RowU wr base g n cp dk ∧ OthersKept w wr (fun k => k = g)) (fun _ vt _ => n - (intOf vt).toNat)
          case atStart => exact ⟨k, 1, d, rfl, rfl, Nat.le_refl _, by omega, by omega, DUP2, HR2.out, HK2.out⟩
          case round =>
            obtain ⟨c, t, dk, rfl, rfl, ht1, htn, hct, hC2, hR3, hK3⟩ := hrel
            have HR3 := Lib.hid hR3
            have HK3 := Lib.hid hK3
            clear hK3
            by_cases hc2 : t < n - k
            · have hc2i : (t : Int) < ((n - k : Nat) : Int) := by omega
              have hc2j : (t : Int) < (n : Int) - (k : Int) := by omega
              obtain ⟨tm, htm⟩ : ∃ x, x = t - 1 := ⟨_, rfl⟩
              have m2 := wsub1 t tm (by omega) (by omega)
              have htm1 : tm + 1 = t := by omega
              have hgl3 := hR3.lt
              have x1 := hR3.cell (k + t) (by omega)
              have x3 := hR3.cell c (by omega)
              have f3 := hR3.frozen c
              have e1 := ext_cell x1 hgl3
              have e2 := ext_cell (hR3.cell (k + tm) (by omega)) hgl3
              have q5 : (0 : Int) ≤ (t : Int) := by omega
              have q6 : (0 : Int) ≤ (tm : Int) := by omega
              have q7 : (tm : Int) < (n : Int) - (k : Int) := by omega
              have q8 : (0 : Int) ≤ (c : Int) := by omega
              have q9 : (c : Int) < (n : Int) := by omega
              have hq : k + t < n := by omega
              have er1 := hC2.out.rest (k + t) (by omega)
              have er2 := hC2.out.rest (k + tm) (by omega)
              have NEW : Hid (¬ dk[k + t]! = dk[k + tm]! → Cmp d (dk.setIfInBounds c dk[k + t]!) n (c + 1) (k + (t + 1))) := by
                show _ → _
                intro hne
                rw [er1, er2] at hne
                rw [er1]
                have := SRT.out (k + tm) (k + t) (by omega) hq
                exact hC2.out.put hq (by rw [show k + t - 1 = k + tm by omega]; omega)
              have DUP : Hid (dk[k + t]! = dk[k + tm]! → Cmp d dk n c (k + (t + 1))) := by
                show _ → _
                intro he
                rw [er1, er2] at he
                exact hC2.out.same hq (by rw [show k + t - 1 = k + tm by omega]; exact he)
              have SETR := Lib.hid (fun u W (hW : Below wr.heap.size wr W) => (hR3.below hW).set c u (by omega))
              clear hR3 er1 er2 htm
              generalize dk[k + t]! = z1 at *
              generalize dk[k + tm]! = z2 at *
              generalize dk[c]! = z3 at *
              by_cases hz : z1 = z2
              · have DUP2 := Lib.hid (DUP.out hz)
                subst hz
                clear DUP NEW x1 x3 f3
                go_upto_region 11 with fail
                refine wp_region_ext wr.heap.size (by kernel_rfl) (by kernel_rfl) ?_
                repeat (go_big_quiet_step (fail))
                refine wpQuiet_nil ?_
                rintro _ ⟨X, rfl⟩
                have HX := Lib.hid X.below
                go_wp2_with fail
                go_roundw
                case rel => exact ⟨c, t + 1, dk, rfl, by go_num, by omega, by omega, by omega, DUP2, HR3.out.below HX.out, HK3.out.then_below HX.out⟩
                case measure => simp [intOf] <;> omega
              · have NEW2 := Lib.hid (NEW.out hz)
                have hzi : ¬ (z1 : Int) = (z2 : Int) := by omega
                clear DUP NEW
                go_upto_region 11 with fail
                refine wp_region_ext wr.heap.size (by kernel_rfl) (by kernel_rfl) ?_
                repeat (go_big_quiet_step (fail))
                refine wpQuiet_nil ?_
                rintro _ ⟨X, rfl⟩
                have HX := Lib.hid X.below
                have y1 := keep_cell HX.out x1
                have y3 := keep_cell HX.out x3
                have g3 := (HX.out.frozen (p := ⟨g, c, none⟩) hgl3).trans f3
                have SW := Lib.hid (SETR.out z1 X.val HX.out)
                generalize X.val = wx at *
                clear x1 x3 f3 e1 e2
                go_wp2_with fail
                go_roundw
                case rel => exact ⟨c + 1, t + 1, _, by go_num, by go_num, by omega, by omega, by omega, NEW2, SW.out, (HK3.out.then_below HX.out).trans (OthersKept.of_grown (p := fun k => k = g) (g := g) (grown_set (grown_refl _ _)) rfl) (fun _ _ h => h)⟩
                case measure => simp [intOf] <;> omega
            · have hc2j : ¬ (t : Int) < (n : Int) - (k : Int) := by omega
              have hc2i : ¬ (t : Int) < ((n - k : Nat) : Int) := by omega
              have hkt : k + t = n := by omega
              obtain ⟨d', C1, C2, C3⟩ := hR3.clear (n - c) c dk _ (by omega)
              have hcn : c < n := by omega
              have hcl := fun ty => Lib.run_clear_slice (P := Try.prog) wr 100 23 ty (.int .u32 0) Try.underlying100 zero_u64 rfl rfl g c (n - c) (cp - c) (by omega) (fun t ht => by rw [hR3.cell (c + t) (by omega)]; rfl) (fun t ht => hR3.frozen (c + t))
              have hC3 := hC2.out
              rw [hkt] at hC3
              have DN := Lib.hid (hC3.done C1.size C2)
              have HC1 := Lib.hid C1
              have HC3 := Lib.hid C3
              clear hR3 C1 C2 C3 hC3
              go_wp2_with fail
              (try simp only [Exit.inBlock, Exit.then]); refine bodyPost_ret (results_tmp rfl _ _ _) rfl ?_
              have hcut := HC1.out.cut c (by omega)
              have hl := (nums_own hcut).2
              exact ⟨Value.slice (some ⟨g, 0, none⟩) c cp, rfl, d'.toList.take c, by omega, DN.out.1, fun z => by rw [DN.out.2, ← HD.out], by rw [hl]; exact hcut, (HK3.out.trans HC3.out (fun _ _ h => h)).mono (fun k h => by subst h; exact hbg)⟩
        · have NEW2 := Lib.hid (NEW.out hxy)
          have hxyi : ¬ (x : Int) = (y : Int) := by omega
          clear DUP NEW
          go_upto_region 6 with fail
          refine wp_region_ext wr.heap.size (by kernel_rfl) (by kernel_rfl) ?_
          repeat (go_big_quiet_step (fail))
          refine wpQuiet_nil ?_
          rintro _ ⟨X, rfl⟩
          have HX := Lib.hid X.below
          go_wp2_with fail
          go_roundw
          case rel => exact ⟨k + 1, by go_num, by omega, by omega, NEW2, HR1.out.below HX.out, below_trans2 HB1.out HX.out⟩
          case measure => simp [intOf] <;> omega
      · have hci : ¬ (k : Int) < (n : Int) := by omega
        obtain rfl : k = n := by omega
        have DN := Lib.hid (hC.out.done hdn (fun t ht => rfl))
        have HT := Lib.hid (show d.toList.take k = d.toList from List.take_of_length_le (by simp [hdn]))
        clear hR
        go_wp2_with fail
        go_ret
        have hr := HR1.out.own
        have hl := (nums_own hr).2
        exact ⟨Value.slice (some ⟨g, 0, none⟩) k cp, rfl, d.toList, by omega, by have := DN.out.1; rwa [HT.out] at this, fun z => by rw [← HD.out], by rw [hl]; exact hr, OthersKept.of_below HB1.out⟩


end Go.Proofs.Ytjcfnfpilladfaa
