/- The document's area: Load. -/
import Derived.Test.YtienlhnbmobinaaRows
import Derived.Test.YtienlhnbmobinaaRefDoes
import Derived.Test.YtienlhnbmobinaaSlotRoot
import Derived.Test.YtienlhnbmobinaaSlotSet
import Derived.Test.YtienlhnbmobinaaSlotCompact
import Derived.Test.YtienlhnbmobinaaSlotRemove
import Derived.Test.YtienlhnbmobinaaSlotPut
import Derived.Test.YtienlhnbmobinaaBase
import Derived.Deep.LoopGhost
import Derived.WalkKit
import Derived.WalkLawsBesides
import Derived.WalkSpells
import Derived.LoopTactic
import Derived.WalkMore
import Derived.LoopN
import Derived.Laws.BitsAllLaws
import Derived.Laws.IdiomStrings
import Derived.BigQuiet
import Derived.Deep.QuietTactic
import Derived.Deep.DeepCutAuto
import Derived.Deep.RegionHeld3
import Derived.Deep.DrawnRows
import Derived.Lib.Hide
import Derived.Outline
import Derived.Deep.DeepMust
import Derived.Handy
import Derived.Test.YtienlhnbmobinaaRefPut
import Derived.Test.YtienlhnbmobinaaSlotLoad
import Derived.Test.YtienlhnbmobinaaSlotAlive
import Derived.Test.YtienlhnbmobinaaWordWalks
namespace Go.Proofs.Ytienlhnbmobinaa
open Go.RowKit
set_option linter.unusedVariables false
set_option linter.unusedSimpArgs false

theorem un_two (l : List UInt8) (k : Nat) (h : k + 2 ≤ l.length) : un ((l.drop k).take 2) = u2 l k := by
  rw [List.drop_eq_getElem_cons (by omega), List.take_succ_cons, List.drop_eq_getElem_cons (by omega), List.take_succ_cons, List.take_zero]
  unfold u2
  have e1 : l.getD k 0 = l[k]'(by omega) := by simp [List.getD_eq_getElem?_getD, List.getElem?_eq_getElem (show k < l.length by omega)]
  have e2 : l.getD (k + 1) 0 = l[k + 1]'(by omega) := by simp [List.getD_eq_getElem?_getD, List.getElem?_eq_getElem (show k + 1 < l.length by omega)]
  rw [e1, e2]
  simp [un]
theorem refGet_two (s : ByteArray) (k : Nat) (w : World) (hs : s.size ≤ maxLen) (h : k + 2 ≤ s.size) :
    Calls Try.prog 112 #[.string s, .int .i64 k, .int .i64 2] w fun e w' => e = .returned (.tuple #[.int .u64 (u2 s.data.toList k : Nat), .bool true]) ∧ w = w' := by
  have hsl : s.data.toList.length = s.size := by simp
  have := refGet_yes s k 2 w hs h (by omega) (by omega)
  rw [un_two _ _ (by omega)] at this
  exact this
/-- A row of bools. -/
def BoolsAt (w : World) (g : Nat) (bs : List Bool) : Prop := w.heap[g]? = some (.cells (bs.map Value.bool).toArray 4 (0, 0))
theorem BoolsAt.cell {w : World} {g : Nat} {bs : List Bool} (h : BoolsAt w g bs) (i : Nat) (hi : i < bs.length) : w.cell? ⟨g, i, none⟩ = some (.bool bs[i]) := by
  rw [blk_cell h i]
  simp [hi]
theorem BoolsAt.set {w : World} {g : Nat} {bs : List Bool} (h : BoolsAt w g bs) (i : Nat) (b : Bool) : BoolsAt (w.setCell ⟨g, i, none⟩ (.bool b)) g (bs.set i b) := by
  have := blk_set h i (.bool b)
  unfold BoolsAt
  rw [this, List.map_set]
  simp
theorem upon_bools {P : Program} {o : Oper} {a : Act} {K : Act → World → Prop} {Q : Exit → Act → World → Prop} (W : World) (t e : TypeId) (n : Nat) (ht : P.underlying t = some (.slice e)) (hz : (P.info? e).map (·.zero) = some (some (.bool false))) (hs : (P.info? e).map (·.size) = some 1) (hb : (P.info? e).map (·.bytes) = some 1) (hn : n ≤ 1000000)
    (hk : ∀ W', W'.heap[W.heap.size]? = some (.cells ((List.replicate n false).map Value.bool).toArray e (0, 0)) → Below W.heap.size W W' → K (a.put o.dst (.slice (some ⟨W.heap.size, 0, none⟩) n n)) W') :
    o.upon P a K Q (((Instr.makeSlice t (.int .i64 n) (.int .i64 n)).run P W).andThen fun v w' => .ok (.value v) w') := by
  cases hq : P.info? e with
  | none => rw [hq] at hs; simp at hs
  | some i =>
    rw [hq] at hz hs hb
    simp at hz hs hb
    have hr := run_makeSlice (P := P) W t e i _ ht hq hz .i64 .i64 (n : Int) (n : Int) (by omega) (Int.le_refl _) (by rw [hs]; simp; omega) (by rw [hb]; omega) (by omega)
    rw [hr]
    simp only [Result.andThen]
    rw [Oper.upon_value]
    simp only [Int.toNat_natCast, hs, Nat.mul_one]
    refine hk _ ?_ ((Below.refl _ _).alloc (Nat.le_refl _) _)
    rw [heap_alloc_new W _]
    congr 2
    apply Array.ext'
    apply List.ext_getElem
    · simp [madeCells, Value.cells]
    · intro j h1 h2
      simp [madeCells, Value.cells, Nat.mod_one]
/-- Which places the first texts have. -/
def Covers (l : List UInt8) (i x : Nat) : Prop := ∃ j, j < i ∧ u2 l (4 + 4 * j) ≤ x ∧ x < u2 l (4 + 4 * j) + u2 l (6 + 4 * j)
theorem apart_of_free {l : List UInt8} {i : Nat} (h : ∀ x, u2 l (4 + 4 * i) ≤ x → x < u2 l (4 + 4 * i) + u2 l (6 + 4 * i) → ¬ Covers l i x) (j : Nat) (hj : j < i) : ApartAt l i j := by
  unfold ApartAt
  have h1 := h (u2 l (4 + 4 * i))
  have h2 := h (u2 l (4 + 4 * j))
  unfold Covers at h1 h2
  by_cases hc : u2 l (4 + 4 * i) ≤ u2 l (4 + 4 * j)
  · by_cases hz : u2 l (6 + 4 * j) = 0
    · exact .inr (.inl hz)
    · by_cases hy : u2 l (4 + 4 * j) < u2 l (4 + 4 * i) + u2 l (6 + 4 * i)
      · exact absurd ⟨j, hj, Nat.le_refl _, by omega⟩ (h2 hc hy)
      · omega
  · by_cases hz : u2 l (6 + 4 * i) = 0
    · exact .inl hz
    · by_cases hy : u2 l (4 + 4 * i) < u2 l (4 + 4 * j) + u2 l (6 + 4 * j)
      · exact absurd ⟨j, hj, by omega, hy⟩ (h1 (Nat.le_refl _) (by omega))
      · omega
theorem not_apart {l : List UInt8} {i x : Nat} (h1 : u2 l (4 + 4 * i) ≤ x) (h2 : x < u2 l (4 + 4 * i) + u2 l (6 + 4 * i)) (h : Covers l i x) : ¬ ∀ j, j < i → ApartAt l i j := by
  intro ha
  obtain ⟨j, hj, h3, h4⟩ := h
  have := ha j hj
  unfold ApartAt at this
  omega
/-- How the document's Load ends. -/
def LoadEnds (w : World) (l : List UInt8) (e : Ending) (w' : World) : Prop :=
  Below w.heap.size w w' ∧ ((¬ (parse l).Good ∧ e = .returned (.pointer none)) ∨ ((parse l).Good ∧ ∃ g gB cap v, e = .returned (.pointer (some ⟨g, 0, none⟩)) ∧ RefAt w' g gB cap v (parse l) ∧ w.heap.size ≤ g ∧ w.heap.size ≤ gB ∧ ∀ x, v.ownBlock = some x → w.heap.size ≤ x))
theorem LoadEnds.no {w w' : World} {l : List UInt8} (hb : Below w.heap.size w w') (h : ¬ (parse l).Good) : LoadEnds w l (.returned (.pointer none)) w' := ⟨hb, .inl ⟨h, rfl⟩⟩

theorem RefAt.push {w w4 : World} {g gB cap base n : Nat} {v v' : Value} {a : Ar} {xs : List Value} {L' : List (Nat × Nat)} (h : RefAt w g gB cap v a) (hd : w.ownsRow base 192 2 v n xs) (hg : w.grownBy w4 v.ownBlock) (ho : w4.ownsRow base 192 2 v' L'.length (places L')) (h1 : g < base) (h2 : gB < base) :
    RefAt (w4.setCell ⟨g, 2, none⟩ v') g gB cap v' { a with L := L' } ∧ w4.heap[g]? = some (.cells #[.slice (some ⟨gB, 0, none⟩) a.B.length cap, .int .i64 (a.low : Nat), v] 151 (0, 0)) := by
  have hfar : ∀ x, x < base → v.ownBlock ≠ some x := fun x hx he => by have := (hd.lt x he).1; omega
  have hb := (hg.block g (blk_lt h.own) (fun e => hfar g h1 e.symm)).trans h.own
  refine ⟨⟨by simpa using blk_set hb 2 v', ?_, ?_, h.ne, fun k hk => by have := (ho.lt k hk).1; omega, h.room⟩, hb⟩
  · exact (h.row.of_eq (hg.block gB h.row.lt (fun e => hfar gB h2 e.symm))).of_eq (Below.heap_setCell w4 ⟨g, 2, none⟩ _ gB (by simp; exact Ne.symm h.ne))
  · have ho0 : w4.ownsRow 0 192 2 v' L'.length (places L') := ⟨ho.1, ho.2.imp id fun ⟨g, cap, cur, h1, h2, h3⟩ => ⟨g, cap, cur, h1, Nat.zero_le _, h3⟩⟩
    refine ho0.kept (row := some g) (grown_set (grown_refl _ _)) ?_
    cases hv : v'.ownBlock with
    | none => exact .inl rfl
    | some k => exact .inr (by have := (ho.lt k hv).1; simp; omega)

set_option maxHeartbeats 4000000 in
set_option maxRecDepth 100000 in
theorem refLoad_any (s : ByteArray) (w : World) (hs : s.size ≤ 9223372036854775807) :
    Calls Try.prog 113 #[.string s] w fun e w' => LoadEnds w s.data.toList e w' := by
  have hsl : s.data.toList.length = s.size := by simp
  have GP := Lib.hid (good_parse s.data.toList)
  by_cases h16 : s.size < 16
  · have HG : Hid (¬ (parse s.data.toList).Good) := fun h => by have := (GP.out.1 h).1; omega
    go_enter Try.func113, Try.ntmps113
    go_wp2_with fail
    go_ret
    exact LoadEnds.no (Below.refl _ _) HG.out
  by_cases h40 : 4096 < s.size
  · have HG : Hid (¬ (parse s.data.toList).Good) := fun h => by have := (GP.out.1 h).2.1; omega
    go_enter Try.func113, Try.ntmps113
    go_wp2_with fail
    go_ret
    exact LoadEnds.no (Below.refl _ _) HG.out
  have GE := Lib.hid fun k (hk : k + 2 ≤ s.size) W => refGet_two s k W (by unfold maxLen; omega) hk
  have hu := u2_lt s.data.toList
  have hn := hu 0
  have hl := hu 2
  have HU := Lib.hid hu
  clear hu
  have HP : Hid (∀ i, i ≤ u2 s.data.toList 0 → (parse s.data.toList).L.take i = (List.range i).map fun i => (u2 s.data.toList (4 + 4 * i), u2 s.data.toList (6 + 4 * i))) := by
    show ∀ i, _
    intro i hi
    unfold parse
    rw [← List.map_take, List.take_range, Nat.min_eq_left hi]
  obtain ⟨i0, hi0, hy0, hy1, hy2⟩ := info_parts (P := Try.prog) (e := 192) (z := .agg #[.int .i64 0, .int .i64 0]) (size := 2) (bytes := 16) (by kernel_rfl)
  have HPn : Hid ((parse s.data.toList).L.length = u2 s.data.toList 0) := parse_n _
  have g0 := Lib.hid (GE.out 0 (by omega))
  have g2 := Lib.hid (GE.out 2 (by omega))
  obtain ⟨N, hN⟩ : ∃ N, N = u2 s.data.toList 0 := ⟨_, rfl⟩
  obtain ⟨low, hlow⟩ : ∃ N, N = u2 s.data.toList 2 := ⟨_, rfl⟩
  rw [← hN] at g0 HP HPn hn
  rw [← hlow] at g2 hl
  have HN := Lib.hid hN
  have HL := Lib.hid hlow
  clear hN hlow
  have w1 : IntKind.i64.wrap (N : Int) = (N : Int) := IntWalk.i64_in _ ⟨by omega, by omega⟩
  have w2 : IntKind.i64.wrap (low : Int) = (low : Int) := IntWalk.i64_in _ ⟨by omega, by omega⟩
  go_enter Try.func113, Try.ntmps113
  go_wp2_with fail
  refine (g0.out _).mono ?_
  rintro e w3 ⟨rfl, rfl⟩
  go_wp2_with fail
  refine (g2.out _).mono ?_
  rintro e w3 ⟨rfl, rfl⟩
  go_wp2_with fail
  refine upon_row_cap _ 9 70 5 s Try.underlying9 Try.underlying70 Try.underlying5 (fun W cap hc hbW hr => ?_)
  have hgB := hr.lt
  have hge := hbW.size
  have HB1 : Hid (Below w.heap.size w (W.alloc (.cells #[.slice (some ⟨w.heap.size, 0, none⟩) s.size cap, .int .i64 low, .slice none 0 0] 151))) := hbW.alloc hbW.size _
  have HA1 : Hid (RefAt (W.alloc (.cells #[.slice (some ⟨w.heap.size, 0, none⟩) s.size cap, .int .i64 low, .slice none 0 0] 151)) W.heap.size w.heap.size cap (.slice none 0 0) { B := s.data.toList, low := low, L := [] }) :=
    ⟨by show _ = some (Obj.cells #[.slice _ s.data.toList.length cap, _, _] _ _); rw [hsl]; exact heap_alloc_new W _, hr.below ((Below.refl _ _).alloc (Nat.le_refl _) _), World.ownsRow_nil _ _ _ _, by omega, (fun k h => by cases h), by show s.data.toList.length ≤ cap; omega⟩
  clear hbW hr
  by_cases hf : 4 + 4 * N ≤ low ∧ low ≤ s.size
  case neg =>
    have HG : Hid (¬ (parse s.data.toList).Good) := fun h => hf (by have := (GP.out.1 h).2.2; rw [← HN.out, ← HL.out] at this; omega)
    have hf' : ¬ 4 + 4 * N ≤ low ∨ ¬ low ≤ s.size := by omega
    clear hf
    by_cases hf1 : 4 + 4 * N ≤ low
    · have hf2 : s.size < low := by omega
      clear hf'
      go_wp2_with fail
      go_ret
      exact LoadEnds.no HB1.out HG.out
    · have hf2 : low < 4 + 4 * N := by omega
      clear hf'
      go_wp2_with fail
      go_ret
      exact LoadEnds.no HB1.out HG.out
  obtain ⟨hf1, hf2⟩ := hf
  have hz1 : (W.alloc (.cells #[.slice (some ⟨w.heap.size, 0, none⟩) s.size cap, .int .i64 low, .slice none 0 0] 151)).heap.size = W.heap.size + 1 := by simp
  go_wp2_with fail
  generalize W.alloc (.cells #[.slice (some ⟨w.heap.size, 0, none⟩) s.size cap, .int .i64 low, .slice none 0 0] 151) = W1 at *
  refine upon_bools _ 47 4 s.size Try.underlying47 (by kernel_rfl) (by kernel_rfl) (by kernel_rfl) (by omega) (fun W2 hb2 hB2 => ?_)
  have hz2 := hB2.size
  have hz3 := blk_lt hb2
  generalize hgO : W1.heap.size = gO at *
  have HgO := Lib.hid hgO
  clear hgO
  generalize hgA : W.heap.size = gA at *
  have HgA := Lib.hid hgA
  clear hgA
  subst hz1
  have HA2 : Hid (RefAt W2 gA w.heap.size cap (.slice none 0 0) { B := s.data.toList, low := low, L := [] }) := HA1.out.below (by rw [HgO.out]; exact hB2)
  have HB2 := Lib.hid (HB1.out.trans (hB2.mono (by omega)))
  have HO2 : Hid (BoolsAt W2 (gA + 1) (List.replicate s.size false)) := hb2
  clear hb2 hB2
  have HD0 : Hid (W2.ownsRow (gA + 1 + 1) 192 2 (.slice none 0 0) 0 (places ((parse s.data.toList).L.take 0))) := World.ownsRow_nil _ _ _ _
  have HC0 : Hid (∀ x, x < s.size → ((List.replicate s.size false)[x]? = some true ↔ Covers s.data.toList 0 x)) := by
    show ∀ x, _
    intro x hx
    constructor
    · intro h; simp [hx] at h
    · rintro ⟨j, hj, _⟩; omega
  go_wp2_with fail
  go_loopw [9] (fun s9 wr => ∃ (i : Nat) (v : Value) (bs : List Bool), i ≤ N ∧ s9 = .int .i64 i ∧ RefAt wr gA w.heap.size cap v { B := s.data.toList, low := low, L := (parse s.data.toList).L.take i } ∧ wr.ownsRow (gA + 1 + 1) 192 2 v i (places ((parse s.data.toList).L.take i)) ∧ BoolsAt wr (gA + 1) bs ∧ bs.length = s.size ∧ (∀ x, x < s.size → (bs[x]? = some true ↔ Covers s.data.toList i x)) ∧ (∀ i', i' < i → FineAt s.data.toList i' ∧ ∀ j, j < i' → ApartAt s.data.toList i' j) ∧ Below w.heap.size w wr) (fun i _ => N - (intOf i).toNat)
  case atStart => exact ⟨0, _, _, Nat.zero_le _, rfl, by rw [List.take_zero]; exact HA2.out, HD0.out, HO2.out, by simp, HC0.out, fun i' h => by omega, HB2.out⟩
  case round =>
    obtain ⟨i, v, bs, hi, rfl, hA, hD, hO, hbl, hcv, hfa, hB⟩ := hrel
    have HA := Lib.hid hA
    have HD := Lib.hid hD
    have HO := Lib.hid hO
    have HCV := Lib.hid hcv
    have HFA := Lib.hid hfa
    have HB := Lib.hid hB
    have hgw := hB.size
    have hOl := blk_lt hO
    clear hA hD hO hcv hfa hB HD0 HC0 HA2 HB2 HO2
    by_cases hc : i < N
    case neg =>
      obtain rfl : i = N := by omega
      go_wp2_with fail
      go_ret
      have hG : (parse s.data.toList).Good := GP.out.2 ⟨by omega, by omega, by rw [← HN.out, ← HL.out]; exact hf1, by rw [← HL.out, hsl]; exact hf2, by rw [← HN.out]; exact HFA.out⟩
      have hR := HA.out
      rw [List.take_of_length_le (by rw [HPn.out]; exact Nat.le_refl _)] at hR
      have hP : ({ B := s.data.toList, low := low, L := (parse s.data.toList).L } : Ar) = parse s.data.toList := by rw [HL.out]; rfl
      rw [hP] at hR
      exact ⟨HB.out, .inr ⟨hG, _, _, _, _, rfl, hR, by omega, Nat.le_refl _, fun x hx => by have := (HD.out.lt x hx).1; omega⟩⟩
    have t1 := Lib.hid (GE.out (4 + 4 * i) (by omega))
    have t2 := Lib.hid (GE.out (6 + 4 * i) (by omega))
    have u1 := HU.out (4 + 4 * i)
    have u2' := HU.out (6 + 4 * i)
    have HFi : Hid (FineAt s.data.toList i ↔ low ≤ Ytienlhnbmobinaa.u2 s.data.toList (4 + 4 * i) ∧ Ytienlhnbmobinaa.u2 s.data.toList (4 + 4 * i) + Ytienlhnbmobinaa.u2 s.data.toList (6 + 4 * i) ≤ s.size) := by show _ ↔ _; unfold FineAt; rw [HL.out, hsl]
    have HCi : Hid (∀ x, Covers s.data.toList (i + 1) x ↔ (Covers s.data.toList i x ∨ (Ytienlhnbmobinaa.u2 s.data.toList (4 + 4 * i) ≤ x ∧ x < Ytienlhnbmobinaa.u2 s.data.toList (4 + 4 * i) + Ytienlhnbmobinaa.u2 s.data.toList (6 + 4 * i)))) := by
      show ∀ x, _
      intro x
      constructor
      · rintro ⟨j, hj, h1, h2⟩
        by_cases hji : j < i
        · exact .inl ⟨j, hji, h1, h2⟩
        · obtain rfl : j = i := by omega
          exact .inr ⟨h1, h2⟩
      · rintro (⟨j, hj, h1, h2⟩ | ⟨h1, h2⟩)
        · exact ⟨j, by omega, h1, h2⟩
        · exact ⟨i, by omega, h1, h2⟩
    have HFr := Lib.hid (apart_of_free (l := s.data.toList) (i := i))
    have HNo := Lib.hid (fun x => not_apart (l := s.data.toList) (i := i) (x := x))
    have HTk : Hid ((parse s.data.toList).L.take (i + 1) = (parse s.data.toList).L.take i ++ [(Ytienlhnbmobinaa.u2 s.data.toList (4 + 4 * i), Ytienlhnbmobinaa.u2 s.data.toList (6 + 4 * i))]) := by
      show _ = _
      rw [HP.out _ (by omega), HP.out _ (by omega), List.range_succ, List.map_append]
      rfl
    have HGi : Hid ((parse s.data.toList).Good → FineAt s.data.toList i ∧ ∀ j, j < i → ApartAt s.data.toList i j) := by
      show _ → _
      intro h
      exact (GP.out.1 h).2.2.2.2 i (by rw [← HN.out]; exact hc)
    have m1 : IntKind.i64.wrap (4 * (i : Int)) = 4 * (i : Int) := IntWalk.i64_in _ ⟨by omega, by omega⟩
    have m2 : IntKind.i64.wrap (4 + 4 * (i : Int)) = ((4 + 4 * i : Nat) : Int) := by rw [show ((4 + 4 * i : Nat) : Int) = 4 + 4 * (i : Int) by omega]; exact IntWalk.i64_in _ ⟨by omega, by omega⟩
    have m3 : IntKind.i64.wrap (6 + 4 * (i : Int)) = ((6 + 4 * i : Nat) : Int) := by rw [show ((6 + 4 * i : Nat) : Int) = 6 + 4 * (i : Int) by omega]; exact IntWalk.i64_in _ ⟨by omega, by omega⟩
    obtain ⟨p1, hp1⟩ : ∃ p, p = 4 + 4 * i := ⟨_, rfl⟩
    obtain ⟨p2, hp2⟩ : ∃ p, p = 6 + 4 * i := ⟨_, rfl⟩
    rw [← hp1] at t1 u1 HFi HCi HFr HNo HTk m2
    rw [← hp2] at t2 u2' HFi HCi HFr HNo HTk m3
    generalize Ytienlhnbmobinaa.u2 s.data.toList p1 = F at *
    generalize Ytienlhnbmobinaa.u2 s.data.toList p2 = Z at *
    clear hp1 hp2
    have w3 : IntKind.i64.wrap (F : Int) = (F : Int) := IntWalk.i64_in _ ⟨by omega, by omega⟩
    have w4 : IntKind.i64.wrap (Z : Int) = (Z : Int) := IntWalk.i64_in _ ⟨by omega, by omega⟩
    have w5 : IntKind.i64.wrap ((F : Int) + (Z : Int)) = ((F + Z : Nat) : Int) := by rw [show (F : Int) + (Z : Int) = ((F + Z : Nat) : Int) by omega]; exact IntWalk.i64_in _ ⟨by omega, by omega⟩
    go_wp2_with fail
    refine (t1.out _).mono ?_
    rintro e w9 ⟨rfl, rfl⟩
    go_wp2_with fail
    refine (t2.out _).mono ?_
    rintro e w9 ⟨rfl, rfl⟩
    have HB6 : Hid (Below wr.heap.size wr (wr.alloc (.cells #[.int .i64 (F : Int), .int .i64 (Z : Int)] 192))) := (Below.refl _ _).alloc (Nat.le_refl _) _
    have HP6 := Lib.hid (heap_alloc_new wr (.cells #[.int .i64 (F : Int), .int .i64 (Z : Int)] 192))
    have HA6 := Lib.hid (HA.out.below HB6.out)
    have HB7 := Lib.hid (below_then HB.out HB6.out)
    have HD6 := Lib.hid (own_below HD.out HB6.out)
    have HO6 : Hid (BoolsAt (wr.alloc (.cells #[.int .i64 (F : Int), .int .i64 (Z : Int)] 192)) (gA + 1) bs) := (HB6.out.block _ hOl).trans HO.out
    go_upto_region 15 with fail
    generalize hw6 : wr.alloc (.cells #[.int .i64 (F : Int), .int .i64 (Z : Int)] 192) = w6 at *
    have Hw6 := Lib.hid hw6
    clear hw6
    generalize hbp : wr.heap.size = bp at *
    have Hbp := Lib.hid hbp
    clear hbp
    have p0 : w6.cell? ⟨bp, 0, none⟩ = some (.int .i64 (F : Int)) := by rw [blk_cell HP6.out 0]; rfl
    have p1 : w6.cell? ⟨bp, 1, none⟩ = some (.int .i64 (Z : Int)) := by rw [blk_cell HP6.out 1]; rfl
    have c1 := HA6.out.c1
    have e0 := ext_cell p0 (cell_lt p0)
    have e1 := ext_cell p1 (cell_lt p1)
    have e2 := ext_cell c1 (cell_lt c1)
    clear p0 p1 c1 HB6
    by_cases hfi : low ≤ F ∧ F + Z ≤ s.size
    case neg =>
      have HNG : Hid (¬ (parse s.data.toList).Good) := fun h => hfi (HFi.out.1 (HGi.out h).1)
      by_cases hx : low ≤ F
      · have hy : s.size < F + Z := by omega
        have hd : decide ((F : Int) < (low : Int)) = false := by simp; omega
        have hd2 : decide (F < low) = false := by simp; omega
        clear hfi
        refine wp_region_ext w6.heap.size (by kernel_rfl) (by kernel_rfl) ?_
        repeat (go_big_quiet_step (fail))
        refine wpQuiet_nil ?_
        rintro _ ⟨X, rfl⟩
        have HX := Lib.hid (below_then HB7.out X.below)
        go_wp2_with fail
        go_ret
        exact LoadEnds.no HX.out HNG.out
      · have hy : F < low := by omega
        clear hfi
        refine wp_region_ext w6.heap.size (by kernel_rfl) (by kernel_rfl) ?_
        repeat (go_big_quiet_step (fail))
        refine wpQuiet_nil ?_
        rintro _ ⟨X, rfl⟩
        have HX := Lib.hid (below_then HB7.out X.below)
        go_wp2_with fail
        go_ret
        exact LoadEnds.no HX.out HNG.out
    obtain ⟨hx1, hx2⟩ := hfi
    have hd : decide ((F : Int) < (low : Int)) = false := by simp; omega
    have hd2 : decide (F < low) = false := by simp; omega
    refine wp_region_ext w6.heap.size (by kernel_rfl) (by kernel_rfl) ?_
    repeat (go_big_quiet_step (fail))
    refine wpQuiet_nil ?_
    rintro _ ⟨X, rfl⟩
    have hX := X.below
    generalize X.val = w8 at hX
    have HA8 := Lib.hid (HA6.out.below hX)
    have HB8 := Lib.hid (below_then HB7.out hX)
    have HD8 := Lib.hid (own_below HD6.out hX)
    have HO8 : Hid (BoolsAt w8 (gA + 1) bs) := (hX.block _ (blk_lt HO6.out)).trans HO6.out
    have HP8 := Lib.hid ((hX.block _ (blk_lt HP6.out)).trans HP6.out)
    have HFA1 := Lib.hid (HFi.out.2 ⟨hx1, hx2⟩)
    clear hX e0 e1 e2 hd hd2
    have p0 : w8.cell? ⟨bp, 0, none⟩ = some (.int .i64 (F : Int)) := by rw [blk_cell HP8.out 0]; rfl
    go_wp2_with fail
    clear p0
    go_loopw [15] (fun s15 wr2 => ∃ (k : Nat) (bs : List Bool), F ≤ k ∧ k ≤ F + Z ∧ s15 = .int .i64 k ∧ RefAt wr2 gA w.heap.size cap v { B := s.data.toList, low := low, L := (parse s.data.toList).L.take i } ∧ wr2.ownsRow (gA + 1 + 1) 192 2 v i (places ((parse s.data.toList).L.take i)) ∧ BoolsAt wr2 (gA + 1) bs ∧ bs.length = s.size ∧ (∀ x, x < s.size → (bs[x]? = some true ↔ Covers s.data.toList i x ∨ (F ≤ x ∧ x < k))) ∧ (∀ x, F ≤ x → x < k → ¬ Covers s.data.toList i x) ∧ wr2.heap[bp]? = some (.cells #[.int .i64 (F : Int), .int .i64 (Z : Int)] 192) ∧ Below w.heap.size w wr2) (fun i _ => F + Z - (intOf i).toNat)
    case atStart =>
      refine ⟨F, bs, Nat.le_refl _, Nat.le_add_right _ _, rfl, HA8.out, HD8.out, HO8.out, hbl, fun x hx => ?_, fun x h1 h2 => by omega, HP8.out, HB8.out⟩
      rw [HCV.out x hx]
      constructor
      · exact fun h => .inl h
      · rintro (h | h)
        · exact h
        · omega
    case round =>
      obtain ⟨k, bs2, hk1, hk2, rfl, hA, hD, hO, hbl2, hcv, hfr, hP, hB⟩ := hrel
      have p0 : wr.cell? ⟨bp, 0, none⟩ = some (.int .i64 (F : Int)) := by rw [blk_cell hP 0]; rfl
      have p1 : wr.cell? ⟨bp, 1, none⟩ = some (.int .i64 (Z : Int)) := by rw [blk_cell hP 1]; rfl
      have HA9 := Lib.hid hA
      have HD9 := Lib.hid hD
      have HO9 := Lib.hid hO
      have HCV9 := Lib.hid hcv
      have HFR9 := Lib.hid hfr
      have HP9 := Lib.hid hP
      have HB9 := Lib.hid hB
      clear hA hD hO hcv hfr hP hB HA8 HB8 HD8 HO8 HP8
      by_cases hkc : k < F + Z
      · have hks : k < bs2.length := by omega
        have o1 := HO9.out.cell k hks
        have of := blk_frozen HO9.out k
        have hb9 := HCV9.out k (by omega)
        rw [List.getElem?_eq_getElem hks] at hb9
        have HBk : Hid (bs2[k] = true ↔ Covers s.data.toList i k ∨ (F ≤ k ∧ k < k)) := by show _ ↔ _; rw [← hb9]; simp
        have q1 : (0 : Int) ≤ (k : Int) := by omega
        have q2 : (k : Int) < (s.size : Int) := by omega
        clear hb9
        by_cases hbk : bs2[k] = true
        · rw [hbk] at o1
          have HNG : Hid (¬ (parse s.data.toList).Good) := by
            show ¬ _
            intro h
            have hcov : Covers s.data.toList i k := by
              rcases HBk.out.1 hbk with h1 | h1
              · exact h1
              · omega
            exact HNo.out k hk1 hkc hcov (HGi.out h).2
          clear hbk
          go_wp2_with fail
          go_ret
          exact LoadEnds.no HB9.out HNG.out
        · have hbf : bs2[k] = false := by simpa using hbk
          rw [hbf] at o1
          have HNc : Hid (¬ Covers s.data.toList i k) := fun h => hbk (HBk.out.2 (.inl h))
          clear hbk hbf
          have HAn := Lib.hid (HA9.out.other (k := gA + 1) (grown_set (u := .bool true) (i := k) (grown_refl _ (some (gA + 1)))) (by omega) (by omega) (fun hx => by have := (HD9.out.lt _ hx).1; omega))
          have HDn := Lib.hid (own_far (g := gA + 1) HD9.out (grown_set (u := .bool true) (i := k) (grown_refl _ (some (gA + 1)))) (by omega))
          have HOn := Lib.hid (HO9.out.set k true)
          have HPn2 := Lib.hid (set_keep (x := gA + 1) (j := k) (u := .bool true) HP9.out (by omega))
          have HBn := Lib.hid (HB9.out.setCell (p := ⟨gA + 1, k, none⟩) (by simp; omega) (.bool true))
          go_wp2_with fail
          go_roundw
          case rel =>
            refine ⟨k + 1, bs2.set k true, by omega, by omega, by go_num, HAn.out, HDn.out, HOn.out, by simpa using hbl2, fun x hx => ?_, fun x h1 h2 => ?_, HPn2.out, HBn.out⟩
            · by_cases hxk : k = x
              · subst hxk
                rw [List.getElem?_set_self hks]
                exact ⟨fun _ => .inr ⟨hk1, by omega⟩, fun _ => rfl⟩
              · rw [List.getElem?_set_ne hxk, HCV9.out x hx]
                constructor
                · rintro (h | h)
                  · exact .inl h
                  · exact .inr ⟨h.1, by omega⟩
                · rintro (h | h)
                  · exact .inl h
                  · exact .inr ⟨h.1, by omega⟩
            · by_cases hxk : k = x
              · subst hxk
                exact HNc.out
              · exact HFR9.out x h1 (by omega)
          case measure => simp [intOf]; omega
      · obtain rfl : k = F + Z := by omega
        have B3 : Below wr.heap.size wr (wr.alloc (.cells #[.int .i64 (F : Int), .int .i64 (Z : Int)] 192)).drew := ((Below.refl _ _).alloc (Nat.le_refl _) _).drew
        have HB3 := Lib.hid B3
        have c2 := HA9.out.c2
        have c2b := (HA9.out.below ((Below.refl wr.heap.size wr).alloc (Nat.le_refl _) (.cells #[.int .i64 (F : Int), .int .i64 (Z : Int)] 192))).c2
        have hz9 := HB9.out.size
        have HD3 := Lib.hid (own_below HD9.out B3)
        have HA3 := Lib.hid (HA9.out.below B3)
        have HR3 : Hid (Reads (wr.alloc (.cells #[.int .i64 (F : Int), .int .i64 (Z : Int)] 192)).drew (.slice (some ⟨wr.heap.size, 0, none⟩) 1 1) 1 2 [.int .i64 (F : Int), .int .i64 (Z : Int)]) := (reads_one2 wr _ _ _ 1).below ((Below.refl _ _).drew)
        have ONE : Hid (∀ u ∈ [Value.int .i64 (F : Int), .int .i64 (Z : Int)], u.oneCell' = true) := by
          show ∀ u ∈ _, _
          rw [← one_place]
          exact places_one _
        have HLT : Hid (((parse s.data.toList).L.take (i + 1)).length = i + 1) := by show _ = _; rw [List.length_take, HPn.out]; omega
        have hOb : Hid (gA + 1 < wr.heap.size) := blk_lt HO9.out
        have hb6 : Hid (gA + 1 + 1 ≤ (wr.alloc (.cells #[.int .i64 (F : Int), .int .i64 (Z : Int)] 192)).drew.heap.size) := by
          show _ ≤ _
          have := hOb.out
          simp
          omega
        clear B3
        go_upto_region 23 with fail
        go_region_law (refine step_append_any _ rfl (.tmp 127) (.tmp 129) 149 rfl (gA + 1 + 1) 192 i0 (.agg #[.int .i64 0, .int .i64 0]) 2 16 Try.underlying149 hi0 hy0 hy1 hy2 rfl (by decide) v i (places ((parse s.data.toList).L.take i)) (by rfl) HD3.out (.slice (some ⟨wr.heap.size, 0, none⟩) 1 1) 1 [.int .i64 (F : Int), .int .i64 (Z : Int)] (by rfl) HR3.out ONE.out (by unfold maxLen; omega) (by omega) hb6.out ?_; intro v4 w4 ho4 hg4; have hL4 : places ((parse s.data.toList).L.take i) ++ [.int .i64 (F : Int), .int .i64 (Z : Int)] = places ((parse s.data.toList).L.take (i + 1)) := by { rw [HTk.out, places_append]; rfl }; rw [hL4] at ho4; have ho4' : w4.ownsRow (gA + 1 + 1) 192 2 v4 ((parse s.data.toList).L.take (i + 1)).length (places ((parse s.data.toList).L.take (i + 1))) := by { rw [HLT.out]; exact ho4 }; have hP4 := HA3.out.push HD3.out hg4 ho4' (by omega) (by omega); have HR4 := Lib.hid hP4.1; have c4 := blk_cell hP4.2 2; have f4 := blk_frozen hP4.2 2; have HO4 := Lib.hid ho4; obtain ⟨b4, cp4, rfl, hn4, hm4, hb4⟩ := dir_form ho4; have HG4 := Lib.hid hg4; clear hL4 ho4' hP4 ho4 hg4 hb4)
        all_goals
          have HBO : Hid (BoolsAt (w4.setCell ⟨gA, 2, none⟩ (.slice b4 (i + 1) cp4)) (gA + 1) bs2) := by
            have e1 : (wr.alloc (.cells #[.int .i64 (F : Int), .int .i64 (Z : Int)] 192)).drew.heap[gA + 1]? = wr.heap[gA + 1]? := HB3.out.block _ hOb.out
            have e2 := HG4.out.block (gA + 1) (Nat.lt_of_lt_of_le hOb.out HB3.out.size) (fun e => by have := (HD3.out.lt _ e.symm).1; omega)
            exact set_keep ((e2.trans e1).trans HO9.out) (by omega)
          have HDn := Lib.hid (own_far (g := gA) HO4.out (grown_set (u := .slice b4 (i + 1) cp4) (i := 2) (grown_refl _ (some gA))) (by omega))
          have HBn := Lib.hid ((below_own (HB9.out.trans (HB3.out.mono hz9)) HD3.out (by omega) HG4.out).setCell (p := ⟨gA, 2, none⟩) (by simp; omega) (.slice b4 (i + 1) cp4))
          clear c4 f4 c2 c2b p0 p1
          go_wp2_with fail
          go_roundw
          case rel =>
            refine ⟨i + 1, _, bs2, by omega, by go_num, HR4.out, HDn.out, HBO.out, hbl2, fun x hx => ?_, fun i' hi' => ?_, HBn.out⟩
            · rw [HCV9.out x hx]
              exact (HCi.out x).symm
            · by_cases hii : i' < i
              · exact HFA.out i' hii
              · obtain rfl : i' = i := by omega
                exact ⟨HFA1.out, HFr.out HFR9.out⟩
          case measure => simp [intOf]; omega

end Go.Proofs.Ytienlhnbmobinaa
