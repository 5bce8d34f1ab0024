/- slices.Sort at uint32: the row, insertion, heap, pivots. -/
import Derived.Test.YtjcfnfpilladfaaRows
import Derived.Test.YtjcfnfpilladfaaBase
import Derived.Deep.LoopGhost
import Derived.Sort.LotA
import Derived.Sort.WalkA
import Derived.WalkKit
import Derived.WalkLawsBesides
import Derived.WalkSpells
import Derived.LoopTactic
import Derived.WalkMore
import Derived.LoopN
import Derived.Laws.BitsAllLaws
import Derived.Laws.IdiomStrings
import Derived.BigQuiet
import Derived.Deep.QuietTactic
import Derived.Deep.DeepCutAuto
import Derived.Deep.RegionHeld3
import Derived.Deep.DrawnRows
import Derived.Lib.Hide
import Derived.Outline
import Derived.Deep.DeepMust
import Derived.Handy
import Derived.Deep.CutBlock
import Derived.Sort.LotD3
namespace Go.Proofs.Ytjcfnfpilladfaa
open Go.RowKit
set_option linter.unusedVariables false
set_option linter.unusedSimpArgs false

def nums (ts : List Nat) : List Value := ts.map fun (t : Nat) => .int .u32 (t : Int)


/-- The order of the numbers. -/
def ltN (x y : Nat) : Bool := decide (x < y)
theorem swoN : Go.Sort.SWO ltN where
  irrefl := fun x => by simp [ltN]
  trans := fun x y z h1 h2 => by simp [ltN] at *; omega
  ntrans := fun x y z h1 h2 => by simp [ltN] at *; omega
/-- A row of numbers in a block of its own. -/
structure RowU (w : World) (base g n cp : Nat) (d : Array Nat) : Prop where
  size : d.size = n
  own : w.ownsRow base 23 1 (.slice (some ⟨g, 0, none⟩) n cp) n (nums d.toList)
theorem RowU.below {w w' : World} {base g n cp : Nat} {d : Array Nat} (h : RowU w base g n cp d) (hb : Below w.heap.size w w') : RowU w' base g n cp d := ⟨h.size, own_below h.own hb⟩
theorem RowU.blk {w : World} {base g n cp : Nat} {d : Array Nat} (h : RowU w base g n cp d) : ∃ cur, w.heap[g]? = some (.cells cur 23 (0, 0)) ∧ base ≤ g ∧ n ≤ cp ∧ cp ≤ maxLen ∧ cur.size = cp ∧ cur.toList.take n = nums d.toList := by
  rcases h.own.2 with ⟨he, _⟩ | ⟨g', cap, cur, he, hb, hg, h1, h2, h3, h4⟩
  · cases he
  · injection he with e1 e2 e3
    injection e1 with e1
    injection e1 with e1 _ _
    subst e1 e3
    exact ⟨cur, hg, hb, h1, h2, by simpa using h3, by simpa using h4⟩
theorem RowU.lt {w : World} {base g n cp : Nat} {d : Array Nat} (h : RowU w base g n cp d) : g < w.heap.size := by obtain ⟨cur, hg, _⟩ := h.blk; exact blk_lt hg
theorem RowU.cell {w : World} {base g n cp : Nat} {d : Array Nat} (h : RowU w base g n cp d) (i : Nat) (hi : i < n) : w.cell? ⟨g, i, none⟩ = some (.int .u32 ((d[i]! : Nat) : Int)) := by
  refine own_cell h.own i _ ?_
  have hs := h.size
  unfold nums
  rw [List.getElem?_map]
  have : d.toList[i]? = some d[i]! := by
    rw [List.getElem?_eq_getElem (by simpa [hs] using hi)]
    simp [show i < d.size by omega]
  rw [this]
  rfl
theorem RowU.frozen {w : World} {base g n cp : Nat} {d : Array Nat} (h : RowU w base g n cp d) (i : Nat) : w.frozen? ⟨g, i, none⟩ = false := by
  obtain ⟨cur, hg, _⟩ := h.blk
  exact blk_frozen hg i
theorem RowU.set {w : World} {base g n cp : Nat} {d : Array Nat} (h : RowU w base g n cp d) (i v : Nat) (hi : i < n) : RowU (w.setCell ⟨g, i, none⟩ (.int .u32 (v : Nat))) base g n cp (d.setIfInBounds i v) := by
  obtain ⟨cur, hg, h1, h2, h3, h4, h5⟩ := h.blk
  refine ⟨by simp [h.size], ?_, .inr ⟨g, cp, cur.setIfInBounds i (.int .u32 (v : Nat)), rfl, h1, blk_set hg i _, h2, h3, by simpa using h4, ?_⟩⟩
  · simp [nums, h.size]
  · rw [Nat.mul_one, Array.toList_setIfInBounds, List.take_set, h5, Array.toList_setIfInBounds]
    unfold nums
    rw [List.map_set]
theorem RowU.swap {w : World} {base g n cp : Nat} {d : Array Nat} (h : RowU w base g n cp d) (i j : Nat) (hi : i < n) (hj : j < n) :
    RowU ((w.setCell ⟨g, i, none⟩ (.int .u32 ((d[j]! : Nat) : Int))).setCell ⟨g, j, none⟩ (.int .u32 ((d[i]! : Nat) : Int))) base g n cp (Go.Sort.swp d i j) := (h.set i _ hi).set j _ hj
theorem swap_kept (w : World) (g i j : Nat) (u v : Value) : OthersKept w ((w.setCell ⟨g, i, none⟩ u).setCell ⟨g, j, none⟩ v) (fun k => k = g) :=
  OthersKept.of_grown (p := fun k => k = g) (g := g) (grown_set (grown_set (grown_refl _ _))) rfl

theorem isNaN_u64 (x : Nat) (w : World) : Calls Try.prog 163 #[.int .u32 x] w fun e w' => e = .returned (.bool false) ∧ Below w.heap.size w w' := by
  have e : ((x : Int) != (x : Int)) = false := by simp
  go_enter Try.func163, Try.ntmps163
  go_wp2_with fail
  go_ret
  exact ⟨rfl, Below.refl _ _⟩
theorem less_u64 (x y : Nat) (w : World) : Calls Try.prog 147 #[.int .u32 x, .int .u32 y] w fun e w' => e = .returned (.bool (ltN x y)) ∧ Below w.heap.size w w' := by
  have N := Lib.hid (isNaN_u64 x)
  go_enter Try.func147, Try.ntmps147
  go_wp2_with fail
  refine (N.out _).mono ?_
  rintro e w1 ⟨rfl, h1⟩
  have H1 := Lib.hid h1
  clear h1
  go_wp2_with fail
  go_ret
  exact ⟨rfl, H1.out⟩



set_option maxHeartbeats 4000000 in
set_option maxRecDepth 100000 in
theorem insertion_u64 (base g n cp a b : Nat) (d : Array Nat) (w : World) (hn : n ≤ 1000000) (hab : a ≤ b) (hb : b ≤ n) (h : RowU w base g n cp d) :
    Calls Try.prog 141 #[.slice (some ⟨g, 0, none⟩) n cp, .int .i64 a, .int .i64 b] w fun e w' => e = .returned (.tuple #[]) ∧ RowU w' base g n cp (Go.Sort.insertionSort ltN d a b) ∧ OthersKept w w' (fun k => k = g) := by
  have hcp : cp ≤ 2 ^ 63 - 1 := by obtain ⟨_, _, _, _, h3, _⟩ := h.blk; exact h3
  have hnc : n ≤ cp := by obtain ⟨_, _, _, h3, _⟩ := h.blk; exact h3
  have H := Lib.hid h
  have LS := Lib.hid less_u64
  clear h
  have v0 : IntKind.i64.wrap ((a : Int) + 1) = ((a + 1 : Nat) : Int) := by rw [show ((a + 1 : Nat) : Int) = (a : Int) + 1 by omega]; exact IntWalk.i64_in _ ⟨by omega, by omega⟩
  go_enter Try.func141, Try.ntmps141
  go_wp2_with fail
  go_loopw [6] (fun s6 wr => ∃ (i : Nat) (dk : Array Nat), s6 = .int .i64 i ∧ a < i ∧ i ≤ b + 1 ∧ RowU wr base g n cp dk ∧ OthersKept w wr (fun k => k = g) ∧ Hid (Go.Sort.insOuter ltN a b i dk = Go.Sort.insertionSort ltN d a b)) (fun vi _ => b + 1 - (intOf vi).toNat)
  case atStart => exact ⟨a + 1, d, rfl, by omega, by omega, H.out, OthersKept.of_below (Below.refl _ _), rfl⟩
  case round =>
    obtain ⟨i, dk, rfl, hai, hib, hR, hK, hO⟩ := hrel
    have HR := Lib.hid hR
    have HK := Lib.hid hK
    clear hR hK
    by_cases hc : i < b
    · go_wp2_with fail
      go_loopw [7] (fun s7 wr2 => ∃ (j : Nat) (dj : Array Nat), s7 = .int .i64 j ∧ a ≤ j ∧ j ≤ i ∧ RowU wr2 base g n cp dj ∧ OthersKept w wr2 (fun k => k = g) ∧ Hid (Go.Sort.insInner ltN a j dj = Go.Sort.insInner ltN a i dk)) (fun vj _ => (intOf vj).toNat)
      case atStart => exact ⟨i, dk, rfl, by omega, Nat.le_refl _, HR.out, HK.out, rfl⟩
      case round =>
        obtain ⟨j, dj, rfl, haj, hji, hRj, hKj, hI⟩ := hrel
        have HRj := Lib.hid hRj
        have HKj := Lib.hid hKj
        have hgl := hRj.lt
        have OUT : Hid ((j ≤ a ∨ ltN dj[j]! dj[j - 1]! = false) → Go.Sort.insOuter ltN a b (i + 1) dj = Go.Sort.insertionSort ltN d a b) := by
          show _ → _
          intro hs
          rw [← hO.out, Go.Proofs.insOuter_go _ _ _ _ _ hc, ← hI.out, Go.Proofs.insInner_stop _ _ _ _ hs]
        by_cases hja : a < j
        · obtain ⟨m, rfl⟩ : ∃ m, j = m + 1 := ⟨j - 1, by omega⟩
          have c1 := hRj.cell (m + 1) (by omega)
          have c2 := hRj.cell m (by omega)
          have f1 := hRj.frozen (m + 1)
          have f2 := hRj.frozen m
          have v1 : IntKind.i64.wrap (((m + 1 : Nat) : Int) - 1) = (m : Int) := by rw [show ((m + 1 : Nat) : Int) - 1 = (m : Int) by omega]; exact IntWalk.i64_in _ ⟨by omega, by omega⟩
          have SW := Lib.hid fun W (hW : Below wr.heap.size wr W) => (hRj.below hW).swap (m + 1) m (by omega) (by omega)
          have OUT2 : Hid (ltN dj[m + 1]! dj[m]! = false → Go.Sort.insOuter ltN a b (i + 1) dj = Go.Sort.insertionSort ltN d a b) := fun h => OUT.out (.inr h)
          have GO : Hid (ltN dj[m + 1]! dj[m]! = true → Go.Sort.insInner ltN a m (Go.Sort.swp dj (m + 1) m) = Go.Sort.insInner ltN a i dk) := by
            show _ → _
            intro hl
            rw [← hI.out, Go.Proofs.insInner_go ltN a (m + 1) dj (by omega) hl]
            rfl
          generalize dj[m + 1]! = x at *
          generalize dj[m]! = y at *
          obtain ⟨J, hJ⟩ : ∃ J, J = m + 1 := ⟨_, rfl⟩
          have hJm : J ≠ m := by omega
          rw [← hJ] at c1 f1 v1 SW hji hja
          have q1 : (0 : Int) ≤ (J : Int) := by omega
          have q2 : (J : Int) < (n : Int) := by omega
          have q3 : (0 : Int) ≤ (m : Int) := by omega
          have q4 : (m : Int) < (n : Int) := by omega
          have q5 : (a : Int) < (J : Int) := by omega
          have HJ := Lib.hid hJ
          have HAJ := Lib.hid haj
          rw [← hJ]
          have e1 := ext_cell c1 (cell_lt c1)
          have e2 := ext_cell c2 (cell_lt c2)
          clear hRj hKj OUT hI haj hJ
          cases hl : ltN x y with
          | true =>
            have L1 := Lib.hid fun W => LS.out x y W
            rw [hl] at L1
            have G1 := Lib.hid (GO.out hl)
            clear hl
            go_upto_region 4 with fail
            refine wp_region_ext wr.heap.size (by kernel_rfl) (by kernel_rfl) ?_
            repeat (go_big_quiet_step (first | (go_at_call 147; exact ext_call _ (Nat.le_refl _) (L1.out _))))
            refine wpQuiet_nil ?_
            rintro _ ⟨X, rfl⟩
            have HX := Lib.hid X.below
            have c3 := keep_cell HX.out c1
            have c4 := keep_cell HX.out c2
            have f3 := (HX.out.frozen (p := ⟨g, J, none⟩) hgl).trans f1
            have f4 := (HX.out.frozen (p := ⟨g, m, none⟩) hgl).trans f2
            generalize X.val = wx at *
            have n1 : ¬ J = m := hJm
            have n2 : ¬ m = J := Ne.symm hJm
            clear c1 c2 f1 f2 e1 e2
            go_upto_region 6 with fail
            go_region
            all_goals go_wp2_with fail
            go_roundw
            case rel => exact ⟨m, _, rfl, by have := HJ.out; omega, by have := HJ.out; omega, (SW.out _ HX.out).below (Below.refl _ _).drew, ((HKj.out.then_below HX.out).trans (swap_kept _ g _ _ _ _) (fun _ _ h => h)).then_below (Below.refl _ _).drew, by rw [HJ.out]; exact G1.out⟩
            case measure => have := HJ.out; simp [intOf]; omega
          | false =>
            have L1 := Lib.hid fun W => LS.out x y W
            rw [hl] at L1
            have G1 := Lib.hid (OUT2.out hl)
            clear hl
            go_upto_region 4 with fail
            refine wp_region_ext wr.heap.size (by kernel_rfl) (by kernel_rfl) ?_
            repeat (go_big_quiet_step (first | (go_at_call 147; exact ext_call _ (Nat.le_refl _) (L1.out _))))
            refine wpQuiet_nil ?_
            rintro _ ⟨X, rfl⟩
            have HX := Lib.hid X.below
            go_wp2_with fail
            go_roundw
            case rel => exact ⟨i + 1, dj, by go_num, by omega, by omega, HRj.out.below HX.out, HKj.out.then_below HX.out, G1.out⟩
            case measure => simp [intOf]; omega
        · have G1 := Lib.hid (OUT.out (.inl (by omega)))
          have hja2 : ¬ (a : Int) < (j : Int) := by omega
          clear hRj hKj OUT
          go_upto_region 4 with fail
          refine wp_region_ext wr.heap.size (by kernel_rfl) (by kernel_rfl) ?_
          repeat (go_big_quiet_step (fail))
          refine wpQuiet_nil ?_
          rintro _ ⟨X, rfl⟩
          have HX := Lib.hid X.below
          go_wp2_with fail
          go_roundw
          case rel => exact ⟨i + 1, dj, by go_num, by omega, by omega, HRj.out.below HX.out, HKj.out.then_below HX.out, G1.out⟩
          case measure => simp [intOf]; omega
    · go_wp2_with fail
      go_end0
      exact ⟨rfl, by rw [← hO.out, Go.Proofs.insOuter_stop _ _ _ _ _ hc]; exact HR.out, HK.out⟩



theorem wadd (x y z : Nat) (h : x + y = z) (hz : z ≤ 100000000) : IntKind.i64.wrap ((x : Int) + (y : Int)) = (z : Int) := by
  rw [show (x : Int) + (y : Int) = (z : Int) by omega]; exact IntWalk.i64_in _ ⟨by omega, by omega⟩
theorem wadd1 (x z : Nat) (h : x + 1 = z) (hz : z ≤ 100000000) : IntKind.i64.wrap ((x : Int) + 1) = (z : Int) := wadd x 1 z h hz
theorem wsub1 (x z : Nat) (h : z + 1 = x) (hz : x ≤ 100000000) : IntKind.i64.wrap ((x : Int) - 1) = (z : Int) := by
  rw [show (x : Int) - 1 = (z : Int) by omega]; exact IntWalk.i64_in _ ⟨by omega, by omega⟩
theorem wsub (x y z : Nat) (h : z + y = x) (hz : x ≤ 100000000) : IntKind.i64.wrap ((x : Int) - (y : Int)) = (z : Int) := by
  rw [show (x : Int) - (y : Int) = (z : Int) by omega]; exact IntWalk.i64_in _ ⟨by omega, by omega⟩
theorem wdbl (x z : Nat) (h : 2 * x = z) (hz : z ≤ 100000000) : IntKind.i64.wrap (2 * (x : Int)) = (z : Int) := by
  rw [show 2 * (x : Int) = (z : Int) by omega]; exact IntWalk.i64_in _ ⟨by omega, by omega⟩
/-- The greater child. -/
def kid (hi F root : Nat) (d : Array Nat) : Nat := if 2 * root + 2 < hi ∧ ltN d[F + (2 * root + 1)]! d[F + (2 * root + 2)]! = true then 2 * root + 2 else 2 * root + 1
theorem sift_end (hi F root : Nat) (d : Array Nat) (h : 2 * root + 1 ≥ hi) : Go.Sort.siftDown ltN hi F root d = d := by rw [Go.Sort.siftDown, dif_pos h]
theorem sift_stop (hi F root : Nat) (d : Array Nat) (h : ¬ 2 * root + 1 ≥ hi) (hl : ltN d[F + root]! d[F + kid hi F root d]! = false) : Go.Sort.siftDown ltN hi F root d = d := by
  unfold kid at hl
  rw [Go.Sort.siftDown, dif_neg h]
  by_cases hk : 2 * root + 2 < hi ∧ ltN d[F + (2 * root + 1)]! d[F + (2 * root + 2)]! = true
  · rw [if_pos hk] at hl
    rw [if_pos (by simpa [Nat.add_assoc] using hk), hl]
    simp
  · rw [if_neg hk] at hl
    rw [if_neg (by simpa [Nat.add_assoc] using hk), hl]
    simp
theorem sift_go (hi F root : Nat) (d : Array Nat) (h : ¬ 2 * root + 1 ≥ hi) (hl : ltN d[F + root]! d[F + kid hi F root d]! = true) : Go.Sort.siftDown ltN hi F root d = Go.Sort.siftDown ltN hi F (kid hi F root d) (Go.Sort.swp d (F + root) (F + kid hi F root d)) := by
  have hkd : kid hi F root d = kid hi F root d := rfl
  unfold kid at hl ⊢
  rw [Go.Sort.siftDown, dif_neg h]
  by_cases hk : 2 * root + 2 < hi ∧ ltN d[F + (2 * root + 1)]! d[F + (2 * root + 2)]! = true
  · rw [if_pos hk] at hl ⊢
    rw [if_pos (by simpa [Nat.add_assoc] using hk), hl]
    simp [hk.1]
  · rw [if_neg hk] at hl ⊢
    rw [if_neg (by simpa [Nat.add_assoc] using hk), hl]
    simp
theorem kid_lt (hi F root : Nat) (d : Array Nat) (h : ¬ 2 * root + 1 ≥ hi) : root < kid hi F root d ∧ kid hi F root d < hi := by
  unfold kid
  split <;> omega

set_option maxHeartbeats 4000000 in
set_option maxRecDepth 100000 in
theorem sift_u64 (base g n cp lo hi F : Nat) (d : Array Nat) (w : World) (hn : n ≤ 1000000) (hlo : lo ≤ 1000000) (hb : F + hi ≤ n) (h : RowU w base g n cp d) :
    Calls Try.prog 158 #[.slice (some ⟨g, 0, none⟩) n cp, .int .i64 lo, .int .i64 hi, .int .i64 F] w fun e w' => e = .returned (.tuple #[]) ∧ RowU w' base g n cp (Go.Sort.siftDown ltN hi F lo d) ∧ OthersKept w w' (fun k => k = g) := by
  have hcp : cp ≤ 2 ^ 63 - 1 := by obtain ⟨_, _, _, _, h3, _⟩ := h.blk; exact h3
  have hnc : n ≤ cp := by obtain ⟨_, _, _, h3, _⟩ := h.blk; exact h3
  have H := Lib.hid h
  have LS := Lib.hid less_u64
  clear h
  go_enter Try.func158, Try.ntmps158
  go_wp2_with fail
  go_loopw [8] (fun s8 wr => ∃ (r : Nat) (dk : Array Nat), s8 = .int .i64 r ∧ r ≤ 1000000 ∧ RowU wr base g n cp dk ∧ OthersKept w wr (fun k => k = g) ∧ Hid (Go.Sort.siftDown ltN hi F r dk = Go.Sort.siftDown ltN hi F lo d)) (fun vi _ => hi - (intOf vi).toNat)
  case atStart => exact ⟨lo, d, rfl, hlo, H.out, OthersKept.of_below (Below.refl _ _), rfl⟩
  case round =>
    obtain ⟨r, dk, rfl, hr, hR, hK, hS⟩ := hrel
    have HR := Lib.hid hR
    have HK := Lib.hid hK
    have hgl := hR.lt
    have m1 := wdbl r (2 * r) rfl (by omega)
    have m2 := wadd1 (2 * r) (2 * r + 1) rfl (by omega)
    generalize hr2 : 2 * r = r2 at m1 m2
    obtain ⟨c1, hc1⟩ : ∃ x, x = r2 + 1 := ⟨_, rfl⟩
    rw [← hc1] at m2
    by_cases hend : hi ≤ c1
    · have G1 := Lib.hid (sift_end hi F r dk (by omega))
      clear hR hK
      go_wp2_with fail
      go_end0
      exact ⟨rfl, by rw [← hS.out, G1.out]; exact HR.out, HK.out⟩
    · have hne : ¬ 2 * r + 1 ≥ hi := by omega
      obtain ⟨hk1, hk2⟩ := kid_lt hi F r dk hne
      have KD : Hid (kid hi F r dk = if c1 + 1 < hi ∧ ltN dk[F + c1]! dk[F + (c1 + 1)]! = true then c1 + 1 else c1) := by
        show _ = _
        unfold kid
        rw [hc1, ← hr2]
      have ST := Lib.hid (sift_stop hi F r dk hne)
      have GO := Lib.hid (sift_go hi F r dk hne)
      generalize kid hi F r dk = k at *
      go_upto_if 36 with fail
      have ec : ((r2 : Nat) : Int) + 1 = (c1 : Int) := by omega
      simp only [ec]
      have hch : c1 < hi := by omega
      have hcr : r < c1 := by omega
      clear m1 m2 ec hc1 hr2 hne hend
      have hk12 : k = c1 ∨ k = c1 + 1 := by rw [KD.out]; split <;> simp
      go_cut [36] (fun s36 w' => s36 = .bool (decide (k = c1 + 1)) ∧ Below wr.heap.size wr w')
      case first =>
        obtain ⟨c2, hc2⟩ : ∃ x, x = c1 + 1 := ⟨_, rfl⟩
        obtain ⟨p1, hp1⟩ : ∃ x, x = F + c1 := ⟨_, rfl⟩
        obtain ⟨p2, hp2⟩ : ∃ x, x = p1 + 1 := ⟨_, rfl⟩
        have m1 := wadd1 c1 c2 hc2.symm (by omega)
        have m2 := wadd F c1 p1 hp1.symm (by omega)
        have m3 := wadd1 p1 p2 hp2.symm (by omega)
        have KD2 : Hid (k = if c2 < hi ∧ ltN dk[p1]! dk[p2]! = true then c2 else c1) := by
          show _ = _
          rw [KD.out, hc2, hp2, hp1, Nat.add_assoc]
        by_cases h2 : c2 < hi
        · have h2i : (c2 : Int) < (hi : Int) := by omega
          have e1 := ext_cell (hR.cell p1 (by omega)) hgl
          have e2 := ext_cell (hR.cell p2 (by omega)) hgl
          generalize dk[p1]! = x at *
          generalize dk[p2]! = y at *
          have q1 : (0 : Int) ≤ (p1 : Int) := by omega
          have q2 : (p1 : Int) < (n : Int) := by omega
          have q3 : (0 : Int) ≤ (p2 : Int) := by omega
          have q4 : (p2 : Int) < (n : Int) := by omega
          have HC2 := Lib.hid hc2
          clear hR hK hc2 hp1 hp2
          cases hl : ltN x y with
          | true =>
            have L1 := Lib.hid fun W => LS.out x y W
            rw [hl] at L1
            obtain rfl : k = c2 := by rw [KD2.out, if_pos ⟨h2, hl⟩]
            clear hl
            refine wp_region_ext wr.heap.size (by kernel_rfl) (by kernel_rfl) ?_
            repeat (go_big_quiet_step (first | (go_at_call 147; exact ext_call _ (Nat.le_refl _) (L1.out _))))
            refine wpQuiet_nil ?_
            rintro _ ⟨X, rfl⟩
            have HX := Lib.hid X.below
            go_wp2_with fail
            go_meet
            exact ⟨by rw [decide_eq_true HC2.out], HX.out⟩
          | false =>
            have L1 := Lib.hid fun W => LS.out x y W
            rw [hl] at L1
            obtain rfl : k = c1 := by rw [KD2.out, if_neg (by rintro ⟨_, h⟩; rw [hl] at h; cases h)]
            clear hl
            refine wp_region_ext wr.heap.size (by kernel_rfl) (by kernel_rfl) ?_
            repeat (go_big_quiet_step (first | (go_at_call 147; exact ext_call _ (Nat.le_refl _) (L1.out _))))
            refine wpQuiet_nil ?_
            rintro _ ⟨X, rfl⟩
            have HX := Lib.hid X.below
            go_wp2_with fail
            go_meet
            exact ⟨by simp, HX.out⟩
        · have h2i : ¬ (c2 : Int) < (hi : Int) := by omega
          obtain rfl : k = c1 := by rw [KD2.out, if_neg (fun h => h2 h.1)]
          clear hR hK hc2 hp1 hp2
          refine wp_region_ext wr.heap.size (by kernel_rfl) (by kernel_rfl) ?_
          repeat (go_big_quiet_step (fail))
          refine wpQuiet_nil ?_
          rintro _ ⟨X, rfl⟩
          have HX := Lib.hid X.below
          go_wp2_with fail
          go_meet
          exact ⟨by simp, HX.out⟩
      case rest =>
        obtain ⟨rfl, hb1⟩ := hcut
        have hRc := hR.below hb1
        have HRc := Lib.hid hRc
        have HKc := Lib.hid (hK.then_below hb1)
        obtain ⟨p0, hp0⟩ : ∃ x, x = F + r := ⟨_, rfl⟩
        obtain ⟨pk, hpk⟩ : ∃ x, x = F + k := ⟨_, rfl⟩
        have m1 := wadd F r p0 hp0.symm (by omega)
        have m2 := wadd F k pk hpk.symm (by omega)
        have hne1 : ¬ p0 = pk := by omega
        have hne2 : ¬ pk = p0 := by omega
        have x1 := hRc.cell p0 (by omega)
        have x2 := hRc.cell pk (by omega)
        have f1 := hRc.frozen p0
        have f2 := hRc.frozen pk
        have hgc := hRc.lt
        have SW := Lib.hid fun W (hW : Below wc.heap.size wc W) => (hRc.below hW).swap p0 pk (by omega) (by omega)
        rw [← hp0, ← hpk] at ST GO
        generalize dk[p0]! = x at *
        generalize dk[pk]! = y at *
        have e1 := ext_cell x1 hgc
        have e2 := ext_cell x2 hgc
        have q1 : (0 : Int) ≤ (p0 : Int) := by omega
        have q2 : (p0 : Int) < (n : Int) := by omega
        have q3 : (0 : Int) ≤ (pk : Int) := by omega
        have q4 : (pk : Int) < (n : Int) := by omega
        clear hR hK hRc hb1 hp0 hpk hch hcr
        rcases hk12 with hk | hk
        · have hd : decide (k = c1 + 1) = false := by simp; omega
          rw [hd]
          have ec : (c1 : Int) = (k : Int) := by omega
          clear hk
          cases hl : ltN x y with
          | true =>
            have L1 := Lib.hid fun W => LS.out x y W
            rw [hl] at L1
            have G1 := Lib.hid (GO.out hl)
            clear hl
            go_upto_region 5 with fail
            try simp only [ec]
            refine wp_region_ext wc.heap.size (by kernel_rfl) (by kernel_rfl) ?_
            repeat (go_big_quiet_step (first | (go_at_call 147; exact ext_call _ (Nat.le_refl _) (L1.out _))))
            refine wpQuiet_nil ?_
            rintro _ ⟨X, rfl⟩
            have HX := Lib.hid X.below
            have c3 := keep_cell HX.out x1
            have c4 := keep_cell HX.out x2
            have f3 := (HX.out.frozen (p := ⟨g, p0, none⟩) hgc).trans f1
            have f4 := (HX.out.frozen (p := ⟨g, pk, none⟩) hgc).trans f2
            generalize X.val = wx at *
            clear x1 x2 f1 f2 e1 e2
            go_upto_region 6 with fail
            go_region
            all_goals go_wp2_with fail
            go_roundw
            case rel => exact ⟨k, _, rfl, by omega, (SW.out _ HX.out).below (Below.refl _ _).drew, ((HKc.out.then_below HX.out).trans (swap_kept _ g _ _ _ _) (fun _ _ h => h)).then_below (Below.refl _ _).drew, by rw [← G1.out]; exact hS⟩
            case measure => simp [intOf]; omega
          | false =>
            have L1 := Lib.hid fun W => LS.out x y W
            rw [hl] at L1
            have G1 := Lib.hid (ST.out hl)
            clear hl
            go_upto_region 5 with fail
            try simp only [ec]
            refine wp_region_ext wc.heap.size (by kernel_rfl) (by kernel_rfl) ?_
            repeat (go_big_quiet_step (first | (go_at_call 147; exact ext_call _ (Nat.le_refl _) (L1.out _))))
            refine wpQuiet_nil ?_
            rintro _ ⟨X, rfl⟩
            have HX := Lib.hid X.below
            go_wp2_with fail
            (try simp only [Exit.inBlock, Exit.then]); refine bodyPost_ret (results_none rfl _ _ _) rfl ?_
            exact ⟨rfl, by rw [← hS.out, G1.out]; exact HRc.out.below HX.out, HKc.out.then_below HX.out⟩
        · have hd : decide (k = c1 + 1) = true := by simp; omega
          rw [hd]
          have ec : (c1 : Int) + 1 = (k : Int) := by omega
          clear hk
          cases hl : ltN x y with
          | true =>
            have L1 := Lib.hid fun W => LS.out x y W
            rw [hl] at L1
            have G1 := Lib.hid (GO.out hl)
            clear hl
            go_upto_region 5 with fail
            try simp only [ec]
            refine wp_region_ext wc.heap.size (by kernel_rfl) (by kernel_rfl) ?_
            repeat (go_big_quiet_step (first | (go_at_call 147; exact ext_call _ (Nat.le_refl _) (L1.out _))))
            refine wpQuiet_nil ?_
            rintro _ ⟨X, rfl⟩
            have HX := Lib.hid X.below
            have c3 := keep_cell HX.out x1
            have c4 := keep_cell HX.out x2
            have f3 := (HX.out.frozen (p := ⟨g, p0, none⟩) hgc).trans f1
            have f4 := (HX.out.frozen (p := ⟨g, pk, none⟩) hgc).trans f2
            generalize X.val = wx at *
            clear x1 x2 f1 f2 e1 e2
            go_upto_region 6 with fail
            go_region
            all_goals go_wp2_with fail
            go_roundw
            case rel => exact ⟨k, _, rfl, by omega, (SW.out _ HX.out).below (Below.refl _ _).drew, ((HKc.out.then_below HX.out).trans (swap_kept _ g _ _ _ _) (fun _ _ h => h)).then_below (Below.refl _ _).drew, by rw [← G1.out]; exact hS⟩
            case measure => simp [intOf]; omega
          | false =>
            have L1 := Lib.hid fun W => LS.out x y W
            rw [hl] at L1
            have G1 := Lib.hid (ST.out hl)
            clear hl
            go_upto_region 5 with fail
            try simp only [ec]
            refine wp_region_ext wc.heap.size (by kernel_rfl) (by kernel_rfl) ?_
            repeat (go_big_quiet_step (first | (go_at_call 147; exact ext_call _ (Nat.le_refl _) (L1.out _))))
            refine wpQuiet_nil ?_
            rintro _ ⟨X, rfl⟩
            have HX := Lib.hid X.below
            go_wp2_with fail
            (try simp only [Exit.inBlock, Exit.then]); refine bodyPost_ret (results_none rfl _ _ _) rfl ?_
            exact ⟨rfl, by rw [← hS.out, G1.out]; exact HRc.out.below HX.out, HKc.out.then_below HX.out⟩



set_option maxHeartbeats 4000000 in
set_option maxRecDepth 100000 in
theorem heap_u64 (base g n cp a b : Nat) (d : Array Nat) (w : World) (hn : n ≤ 1000000) (hab : a < b) (hb : b ≤ n) (h : RowU w base g n cp d) :
    Calls Try.prog 142 #[.slice (some ⟨g, 0, none⟩) n cp, .int .i64 a, .int .i64 b] w fun e w' => e = .returned (.tuple #[]) ∧ RowU w' base g n cp (Go.Sort.heapSort ltN d a b) ∧ OthersKept w w' (fun k => k = g) := by
  have H := Lib.hid h
  have SD := Lib.hid fun lo hi dk W (h1 : lo ≤ 1000000) (h2 : a + hi ≤ n) hR => sift_u64 base g n cp lo hi a dk W hn h1 h2 hR
  have HS : Hid (Go.Sort.heapSort ltN d a b = Go.Sort.heapPop ltN a (b - a) (Go.Sort.heapBuild ltN (b - a) a ((b - a - 1) / 2 + 1) d)) := rfl
  clear h
  obtain ⟨h, hh⟩ : ∃ x, x = b - a := ⟨_, rfl⟩
  rw [← hh] at HS
  obtain ⟨h1, hh1⟩ : ∃ x, x = h - 1 := ⟨_, rfl⟩
  rw [← hh1] at HS
  obtain ⟨i0, hi0⟩ : ∃ x, x = h1 / 2 := ⟨_, rfl⟩
  rw [← hi0] at HS
  have m1 := wsub b a h (by omega) (by omega)
  have m2 := wsub1 h h1 (by omega) (by omega)
  have m3 : ((h1 : Nat) : Int).tdiv 2 = (i0 : Int) := by rw [Int.tdiv_eq_ediv_of_nonneg (by omega)]; omega
  have m4 : IntKind.i64.wrap ((i0 : Nat) : Int) = (i0 : Int) := IntWalk.i64_in _ ⟨by omega, by omega⟩
  have b1 : (b : Int) - (a : Int) = (h : Int) := by omega
  have b2 : (h : Int) - 1 = (h1 : Int) := by omega
  have hle : a + h ≤ n := by omega
  have hi1 : i0 + 1 ≤ 1000000 := by omega
  have hhp : h = h1 + 1 := by omega
  have hhn : h ≤ 1000000 := by omega
  have HH := Lib.hid hhp
  clear hh hh1 hi0 hhp
  go_enter Try.func142, Try.ntmps142
  go_wp2_with fail
  go_loopw [9] (fun s9 wr => ∃ (k : Nat) (dk : Array Nat), k ≤ i0 + 1 ∧ s9 = .int .i64 ((k : Int) - 1) ∧ RowU wr base g n cp dk ∧ OthersKept w wr (fun k => k = g) ∧ Hid (Go.Sort.heapBuild ltN h a k dk = Go.Sort.heapBuild ltN h a (i0 + 1) d)) (fun v _ => (intOf v + 1).toNat)
  case atStart => exact ⟨i0 + 1, d, Nat.le_refl _, by congr 1; omega, H.out, OthersKept.of_below (Below.refl _ _), rfl⟩
  case round =>
    obtain ⟨k, dk, hk, rfl, hR, hK, hS⟩ := hrel
    have HR := Lib.hid hR
    have HK := Lib.hid hK
    clear hR hK
    cases k with
    | succ k =>
      have ek : ((k + 1 : Nat) : Int) - 1 = (k : Int) := by omega
      simp only [ek]
      clear ek
      have q0 : (0 : Int) ≤ (k : Int) := by omega
      go_wp2_with fail
      refine (SD.out k h dk wr (by omega) hle HR.out).mono ?_
      rintro e w2 ⟨rfl, hR2, hK2⟩
      have HR2 := Lib.hid hR2
      have HK2 := Lib.hid hK2
      clear hR2 hK2
      go_wp2_with fail
      go_roundw
      case rel => exact ⟨k, _, by omega, rfl, HR2.out, HK.out.trans HK2.out (fun _ _ h => h), hS⟩
      case measure => simp [intOf] <;> omega
    | zero =>
      obtain ⟨q, hq⟩ : ∃ q : Int, q = ((0 : Nat) : Int) - 1 := ⟨_, rfl⟩
      rw [← hq]
      have hq0 : ¬ 0 ≤ q := by omega
      clear hq
      go_wp2_with fail
      go_loopw [10] (fun s10 wr2 => ∃ (k : Nat) (dj : Array Nat), k ≤ h ∧ s10 = .int .i64 ((k : Int) - 1) ∧ RowU wr2 base g n cp dj ∧ OthersKept w wr2 (fun k => k = g) ∧ Hid (Go.Sort.heapPop ltN a k dj = Go.Sort.heapPop ltN a h dk)) (fun v _ => (intOf v + 1).toNat)
      case atStart => exact ⟨h, dk, Nat.le_refl _, by congr 1; omega, HR.out, HK.out, rfl⟩
      case round =>
        obtain ⟨k, dj, hk2, rfl, hR, hK, hP⟩ := hrel
        have HRj := Lib.hid hR
        have HKj := Lib.hid hK
        have hgl := hR.lt
        cases k with
        | zero =>
          clear hR hK
          go_wp2_with fail
          go_end0
          refine ⟨rfl, ?_, HKj.out⟩
          rw [HS.out]
          have e1 : Go.Sort.heapBuild ltN h a (i0 + 1) d = dk := hS.out.symm
          have e2 : Go.Sort.heapPop ltN a h dk = dj := hP.out.symm
          rw [e1, e2]
          exact HRj.out
        | succ k =>
          have ek : ((k + 1 : Nat) : Int) - 1 = (k : Int) := by omega
          simp only [ek]
          clear ek
          have q0 : (0 : Int) ≤ (k : Int) := by omega
          have x1 := hR.cell a (by omega)
          have f1 := hR.frozen a
          have qa1 : (0 : Int) ≤ (a : Int) := by omega
          have qa2 : (a : Int) < (n : Int) := by omega
          cases k with
          | zero =>
            have SW := Lib.hid (hR.swap a a (by omega) (by omega))
            have HPo : Hid (Go.Sort.heapPop ltN a 0 (Go.Sort.siftDown ltN 0 a 0 (Go.Sort.swp dj a a)) = Go.Sort.heapPop ltN a h dk) := hP
            generalize dj[a]! = x at *
            clear hR hK hP
            go_upto_region 10 with fail
            go_region
            all_goals go_wp2_with fail
            refine (SD.out 0 0 _ _ (by omega) (by omega) (SW.out.below (Below.refl _ _).drew)).mono ?_
            rintro e w2 ⟨rfl, hR2, hK2⟩
            have HR2 := Lib.hid hR2
            have HK2 := Lib.hid ((((HKj.out.trans (swap_kept _ g _ _ _ _) (fun _ _ h => h))).then_below (Below.refl _ _).drew).trans hK2 (fun _ _ h => h))
            clear hR2 hK2
            go_wp2_with fail
            go_roundw
            case rel => exact ⟨0, _, by omega, rfl, HR2.out, HK2.out, HPo.out⟩
            case measure => simp [intOf]
          | succ m =>
            have HPo : Hid (Go.Sort.heapPop ltN a (m + 1) (Go.Sort.siftDown ltN (m + 1) a 0 (Go.Sort.swp dj a (a + (m + 1)))) = Go.Sort.heapPop ltN a h dk) := hP
            obtain ⟨K, hKm⟩ : ∃ x, x = m + 1 := ⟨_, rfl⟩
            rw [← hKm] at HPo q0 ⊢
            obtain ⟨p, hp⟩ : ∃ x, x = a + K := ⟨_, rfl⟩
            rw [← hp] at HPo
            have m5 := wadd a K p hp.symm (by omega)
            have x2 := hR.cell p (by omega)
            have f2 := hR.frozen p
            have qp1 : (0 : Int) ≤ (p : Int) := by omega
            have qp2 : (p : Int) < (n : Int) := by omega
            have n1 : ¬ a = p := by omega
            have n2 : ¬ p = a := by omega
            have hKh : K ≤ h := by omega
            have SW := Lib.hid (hR.swap a p (by omega) (by omega))
            generalize dj[a]! = x at *
            generalize dj[p]! = y at *
            clear hR hK hP hKm hp
            go_upto_region 10 with fail
            go_region
            all_goals go_wp2_with fail
            refine (SD.out 0 K _ _ (by omega) (by omega) (SW.out.below (Below.refl _ _).drew)).mono ?_
            rintro e w2 ⟨rfl, hR2, hK2⟩
            have HR2 := Lib.hid hR2
            have HK2 := Lib.hid ((((HKj.out.trans (swap_kept _ g _ _ _ _) (fun _ _ h => h))).then_below (Below.refl _ _).drew).trans hK2 (fun _ _ h => h))
            clear hR2 hK2
            go_wp2_with fail
            go_roundw
            case rel => exact ⟨K, _, hKh, rfl, HR2.out, HK2.out, HPo.out⟩
            case measure => simp [intOf] <;> omega



set_option maxHeartbeats 4000000 in
set_option maxRecDepth 100000 in
theorem reverse_u64 (base g n cp a b : Nat) (d : Array Nat) (w : World) (hn : n ≤ 1000000) (hab : a < b) (hb : b ≤ n) (h : RowU w base g n cp d) :
    Calls Try.prog 145 #[.slice (some ⟨g, 0, none⟩) n cp, .int .i64 a, .int .i64 b] w fun e w' => e = .returned (.tuple #[]) ∧ RowU w' base g n cp (Go.Sort.reverseRange d a b) ∧ OthersKept w w' (fun k => k = g) := by
  have H := Lib.hid h
  clear h
  obtain ⟨b1, hb1⟩ : ∃ x, x = b - 1 := ⟨_, rfl⟩
  have HS : Hid (Go.Sort.reverseRange d a b = Go.Sort.reverseLoop a b1 d) := by show _ = _; rw [hb1]; rfl
  have eb : (b : Int) - 1 = (b1 : Int) := by omega
  have hb1n : b1 < n := by omega
  clear hb1
  go_enter Try.func145, Try.ntmps145
  go_wp2_with fail
  go_loopw [6, 7] (fun s6 s7 wr => ∃ (i j : Nat) (dk : Array Nat), s6 = .int .i64 i ∧ s7 = .int .i64 j ∧ i ≤ n ∧ j < n ∧ RowU wr base g n cp dk ∧ OthersKept w wr (fun k => k = g) ∧ Hid (Go.Sort.reverseLoop i j dk = Go.Sort.reverseLoop a b1 d)) (fun _ vj _ => (intOf vj).toNat)
  case atStart => exact ⟨a, b1, d, rfl, rfl, by omega, hb1n, H.out, OthersKept.of_below (Below.refl _ _), rfl⟩
  case round =>
    obtain ⟨i, j, dk, rfl, rfl, hin, hjn, hR, hK, hS⟩ := hrel
    have HR := Lib.hid hR
    have HK := Lib.hid hK
    by_cases hc : i < j
    · obtain ⟨j1, hj1⟩ : ∃ x, x = j - 1 := ⟨_, rfl⟩
      have HS2 : Hid (Go.Sort.reverseLoop (i + 1) j1 (Go.Sort.swp dk i j) = Go.Sort.reverseLoop a b1 d) := by
        show _ = _
        rw [← hS.out]
        conv => rhs; rw [Go.Sort.reverseLoop, if_pos hc]
        rw [hj1]
      have ej : (j : Int) - 1 = (j1 : Int) := by omega
      have x1 := hR.cell i (by omega)
      have x2 := hR.cell j hjn
      have f1 := hR.frozen i
      have f2 := hR.frozen j
      have SW := Lib.hid (hR.swap i j (by omega) hjn)
      have q1 : (0 : Int) ≤ (i : Int) := by omega
      have q2 : (i : Int) < (n : Int) := by omega
      have q3 : (0 : Int) ≤ (j : Int) := by omega
      have q4 : (j : Int) < (n : Int) := by omega
      have n1 : ¬ i = j := by omega
      have n2 : ¬ j = i := by omega
      have hj1n : j1 < n := by omega
      have hjj : j1 < j := by omega
      generalize dk[i]! = x at *
      generalize dk[j]! = y at *
      clear hR hK hS hj1
      go_upto_region 3 with fail
      go_region
      all_goals go_wp2_with fail
      go_roundw
      case rel => exact ⟨i + 1, j1, _, by go_num, rfl, by omega, hj1n, SW.out.below (Below.refl _ _).drew, (HK.out.trans (swap_kept _ g _ _ _ _) (fun _ _ h => h)).then_below (Below.refl _ _).drew, HS2.out⟩
      case measure => simp [intOf] <;> omega
    · go_wp2_with fail
      go_end0
      refine ⟨rfl, ?_, HK.out⟩
      have e : Go.Sort.reverseLoop i j dk = dk := by rw [Go.Sort.reverseLoop, if_neg hc]
      rw [HS.out, ← hS.out, e]
      exact HR.out



/-- A counter in a block of its own. -/
def CntAt (w : World) (s c : Nat) : Prop := w.heap[s]? = some (.cells #[.int .i64 (c : Nat)] 3 (0, 0))
theorem CntAt.below {w w' : World} {s c : Nat} (h : CntAt w s c) (hb : Below w.heap.size w w') : CntAt w' s c := (hb.block s (blk_lt h)).trans h
theorem RowU.kept {w w' : World} {p : Nat → Prop} {base g n cp : Nat} {d : Array Nat} (h : RowU w base g n cp d) (hk : OthersKept w w' p) (hg : ¬ p g) : RowU w' base g n cp d :=
  ⟨h.size, hk.owns h.own (fun k hk2 => by simp [Value.ownBlock] at hk2; subst hk2; exact hg)⟩

set_option maxHeartbeats 4000000 in
set_option maxRecDepth 100000 in
/-- Two places in order; how often it swapped. -/
theorem order2_u64 (base g n cp s a b c : Nat) (d : Array Nat) (w : World) (hn : n ≤ 1000000) (ha : a < n) (hb : b < n) (hc : c ≤ 1000) (h : RowU w base g n cp d) (hw : CntAt w s c) :
    Calls Try.prog 172 #[.slice (some ⟨g, 0, none⟩) n cp, .int .i64 a, .int .i64 b, .pointer (some ⟨s, 0, none⟩)] w fun e w' => ∃ p q c' : Nat, (p = a ∨ p = b) ∧ (q = a ∨ q = b) ∧ c' ≤ c + 1 ∧ e = .returned (.tuple #[.int .i64 p, .int .i64 q]) ∧ CntAt w' s c' ∧ OthersKept w w' (fun k => k = s) := by
  have hgl := h.lt
  have LS := Lib.hid less_u64
  have c1 := h.cell a ha
  have c2 := h.cell b hb
  have HW := Lib.hid hw
  have x3 : w.cell? ⟨s, 0, none⟩ = some (.int .i64 (c : Nat)) := blk_cell hw 0
  have f3 : w.frozen? ⟨s, 0, none⟩ = false := blk_frozen hw 0
  have hsl := blk_lt hw
  have q1 : (0 : Int) ≤ (a : Int) := by omega
  have q2 : (a : Int) < (n : Int) := by omega
  have q3 : (0 : Int) ≤ (b : Int) := by omega
  have q4 : (b : Int) < (n : Int) := by omega
  generalize d[a]! = x at *
  generalize d[b]! = y at *
  have e1 := ext_cell c1 hgl
  have e2 := ext_cell c2 hgl
  clear h hw
  go_enter Try.func172, Try.ntmps172
  go_upto_region 1 with fail
  cases hl : ltN y x with
  | true =>
    have L1 := Lib.hid fun W => LS.out y x W
    rw [hl] at L1
    clear hl
    refine wp_region_ext w.heap.size (by kernel_rfl) (by kernel_rfl) ?_
    repeat (go_big_quiet_step (first | (go_at_call 147; exact ext_call _ (Nat.le_refl _) (L1.out _))))
    refine wpQuiet_nil ?_
    rintro _ ⟨X, rfl⟩
    have HX := Lib.hid X.below
    have x4 := keep_cell HX.out x3
    have f4 := (HX.out.frozen (p := ⟨s, 0, none⟩) hsl).trans f3
    have HC := Lib.hid (HW.out.below HX.out)
    generalize X.val = wx at *
    clear c1 c2 e1 e2 x3 f3
    go_wp2_with fail
    go_ret2
    refine ⟨b, a, c + 1, .inr rfl, .inl rfl, Nat.le_refl _, rfl, ?_, (OthersKept.of_below HX.out).trans (OthersKept.of_grown (p := fun k => k = s) (g := s) (grown_set (grown_refl _ _)) rfl) (fun _ _ h => h)⟩
    exact blk_set HC.out 0 _
  | false =>
    have L1 := Lib.hid fun W => LS.out y x W
    rw [hl] at L1
    clear hl
    refine wp_region_ext w.heap.size (by kernel_rfl) (by kernel_rfl) ?_
    repeat (go_big_quiet_step (first | (go_at_call 147; exact ext_call _ (Nat.le_refl _) (L1.out _))))
    refine wpQuiet_nil ?_
    rintro _ ⟨X, rfl⟩
    have HX := Lib.hid X.below
    go_wp2_with fail
    go_ret2
    exact ⟨a, b, c, .inl rfl, .inr rfl, by omega, rfl, HW.out.below HX.out, OthersKept.of_below HX.out⟩

set_option maxHeartbeats 4000000 in
set_option maxRecDepth 100000 in
/-- The middle of three. -/
theorem median_u64 (base g n cp s a b z c : Nat) (d : Array Nat) (w : World) (hn : n ≤ 1000000) (ha : a < n) (hb : b < n) (hz : z < n) (hc : c ≤ 900) (hs : s ≠ g) (h : RowU w base g n cp d) (hw : CntAt w s c) :
    Calls Try.prog 162 #[.slice (some ⟨g, 0, none⟩) n cp, .int .i64 a, .int .i64 b, .int .i64 z, .pointer (some ⟨s, 0, none⟩)] w fun e w' => ∃ p c' : Nat, (p = a ∨ p = b ∨ p = z) ∧ c' ≤ c + 3 ∧ e = .returned (.int .i64 p) ∧ CntAt w' s c' ∧ OthersKept w w' (fun k => k = s) := by
  have OR := Lib.hid fun a b c W (h1 : a < n) (h2 : b < n) (h3 : c ≤ 1000) hR hC => order2_u64 base g n cp s a b c d W hn h1 h2 h3 hR hC
  have H := Lib.hid h
  have HW := Lib.hid hw
  clear h hw
  go_enter Try.func162, Try.ntmps162
  go_wp2_with fail
  refine (OR.out a b c w ha hb (by omega) H.out HW.out).mono ?_
  rintro e w1 ⟨p1, r1, c1, hp1, hr1, hc1, rfl, hC1, hK1⟩
  have H1 := Lib.hid (H.out.kept hK1 (fun h => hs h.symm))
  have HC1 := Lib.hid hC1
  have HK1 := Lib.hid hK1
  clear hC1 hK1
  have hp1n : p1 < n := by omega
  have hr1n : r1 < n := by omega
  go_wp2_with fail
  refine (OR.out r1 z c1 w1 hr1n hz (by omega) H1.out HC1.out).mono ?_
  rintro e w2 ⟨p2, r2, c2, hp2, hr2, hc2, rfl, hC2, hK2⟩
  have H2 := Lib.hid (H1.out.kept hK2 (fun h => hs h.symm))
  have HC2 := Lib.hid hC2
  have HK2 := Lib.hid (HK1.out.trans hK2 (fun _ _ h => h))
  clear hC2 hK2
  have hp2n : p2 < n := by omega
  go_wp2_with fail
  refine (OR.out p1 p2 c2 w2 hp1n hp2n (by omega) H2.out HC2.out).mono ?_
  rintro e w3 ⟨p3, r3, c3, hp3, hr3, hc3, rfl, hC3, hK3⟩
  have HC3 := Lib.hid hC3
  have HK3 := Lib.hid (HK2.out.trans hK3 (fun _ _ h => h))
  clear hC3 hK3
  go_wp2_with fail
  go_ret
  exact ⟨r3, c3, by omega, by omega, rfl, HC3.out, HK3.out⟩

set_option maxHeartbeats 4000000 in
set_option maxRecDepth 100000 in
/-- The middle of a place and its neighbours. -/
theorem medianAdjacent_u64 (base g n cp s a c : Nat) (d : Array Nat) (w : World) (hn : n ≤ 1000000) (ha : 1 ≤ a) (hb : a + 1 < n) (hc : c ≤ 900) (hs : s ≠ g) (h : RowU w base g n cp d) (hw : CntAt w s c) :
    Calls Try.prog 161 #[.slice (some ⟨g, 0, none⟩) n cp, .int .i64 a, .pointer (some ⟨s, 0, none⟩)] w fun e w' => ∃ p c' : Nat, (a ≤ p + 1 ∧ p ≤ a + 1) ∧ c' ≤ c + 3 ∧ e = .returned (.int .i64 p) ∧ CntAt w' s c' ∧ OthersKept w w' (fun k => k = s) := by
  obtain ⟨a0, ha0⟩ : ∃ x, x = a - 1 := ⟨_, rfl⟩
  obtain ⟨a2, ha2⟩ : ∃ x, x = a + 1 := ⟨_, rfl⟩
  have ME := Lib.hid (median_u64 base g n cp s a0 a a2 c d w hn (by omega) (by omega) (by omega) hc hs h hw)
  have e0 : (a : Int) - 1 = (a0 : Int) := by omega
  have e2 : (a : Int) + 1 = (a2 : Int) := by omega
  have hpp : ∀ p, (p = a0 ∨ p = a ∨ p = a2) → a ≤ p + 1 ∧ p ≤ a + 1 := fun p hp => by omega
  have hab : a ≤ 1000000 := by omega
  clear h hw ha0 ha2
  go_enter Try.func161, Try.ntmps161
  go_wp2_with fail
  (try rw [e0]); (try rw [e2])
  refine (ME.out).mono ?_
  rintro e w1 ⟨p1, c1, hp1, hc1, rfl, hC1, hK1⟩
  have HC1 := Lib.hid hC1
  have HK1 := Lib.hid hK1
  clear hC1 hK1
  go_wp2_with fail
  go_ret
  exact ⟨p1, c1, hpp _ hp1, hc1, rfl, HC1.out, HK1.out⟩



set_option maxHeartbeats 4000000 in
set_option maxRecDepth 100000 in
/-- The pivot's place and a hint. -/
theorem choosePivot_u64 (base g n cp a b : Nat) (d : Array Nat) (w : World) (hn : n ≤ 1000000) (hab : a + 12 < b) (hb : b ≤ n) (h : RowU w base g n cp d) :
    Calls Try.prog 144 #[.slice (some ⟨g, 0, none⟩) n cp, .int .i64 a, .int .i64 b] w fun e w' => ∃ p c : Nat, a ≤ p ∧ p < b ∧ c ≤ 2 ∧ e = .returned (.tuple #[.int .i64 p, .int .i64 c]) ∧ Below w.heap.size w w' := by
  have MA := Lib.hid fun s a c W (h1 : 1 ≤ a) (h2 : a + 1 < n) (h3 : c ≤ 900) (h4 : s ≠ g) hR hC => medianAdjacent_u64 base g n cp s a c d W hn h1 h2 h3 h4 hR hC
  have ME := Lib.hid fun s a b z c W (h1 : a < n) (h2 : b < n) (h5 : z < n) (h3 : c ≤ 900) (h4 : s ≠ g) hR hC => median_u64 base g n cp s a b z c d W hn h1 h2 h5 h3 h4 hR hC
  have H := Lib.hid h
  have hsg : w.heap.size ≠ g := by have := h.lt; omega
  have HB0 := Lib.hid ((Below.refl w.heap.size w).alloc (Nat.le_refl _) (.cells #[.int .i64 0] 3))
  have HC0 : Hid (CntAt (w.alloc (.cells #[.int .i64 0] 3)) w.heap.size 0) := by
    exact heap_alloc_new w _
  clear h
  obtain ⟨l, hl⟩ : ∃ x, x = b - a := ⟨_, rfl⟩
  obtain ⟨q, hq⟩ : ∃ x, x = l / 4 := ⟨_, rfl⟩
  obtain ⟨i, hi⟩ : ∃ x, x = a + q := ⟨_, rfl⟩
  obtain ⟨j, hj⟩ : ∃ x, x = a + 2 * q := ⟨_, rfl⟩
  obtain ⟨k, hk⟩ : ∃ x, x = a + 3 * q := ⟨_, rfl⟩
  have m3 : ((l : Nat) : Int).tdiv 4 = (q : Int) := by rw [Int.tdiv_eq_ediv_of_nonneg (by omega)]; omega
  have m4 : IntKind.i64.wrap ((q : Nat) : Int) = (q : Int) := IntWalk.i64_in _ ⟨by omega, by omega⟩
  have b1 : (b : Int) - (a : Int) = (l : Int) := by omega
  have hq3 : 3 ≤ q := by omega
  have hq4 : 4 * q ≤ l := by omega
  have hqn : q ≤ 1000000 := by omega
  have hl8 : (8 : Int) ≤ (l : Int) := by omega
  have ei : (a : Int) + (q : Int) = (i : Int) := by omega
  have ej : (a : Int) + (q : Int) * 2 = (j : Int) := by omega
  have ek : (a : Int) + (q : Int) * 3 = (k : Int) := by omega
  have hi0 : a + 3 ≤ i := by omega
  have hij : i + 3 ≤ j := by omega
  have hjk : j + 3 ≤ k := by omega
  have hkb : k + 1 < b := by omega
  have hln : l ≤ 1000000 := by omega
  have hJ := Lib.hid hj
  clear hl hi hj hk hq
  go_enter Try.func144, Try.ntmps144
  have HR0 := Lib.hid (H.out.below HB0.out)
  have hci : ∀ c : Nat, c = 0 → ((c : Nat) : Int) = 0 := fun c h => by omega
  by_cases h50 : 50 ≤ l
  · have h50i : (50 : Int) ≤ (l : Int) := by omega
    go_wp2_with fail
    refine (MA.out w.heap.size i 0 _ (by omega) (by omega) (by omega) hsg HR0.out HC0.out).mono ?_
    rintro e w1 ⟨p1, c1, hp1, hc1, rfl, hC1, hK1⟩
    have HR1 := Lib.hid (HR0.out.kept hK1 (fun h => hsg h.symm))
    have HC1 := Lib.hid hC1
    have HK1 := Lib.hid hK1
    clear hC1 hK1
    go_wp2_with fail
    refine (MA.out w.heap.size j c1 _ (by omega) (by omega) (by omega) hsg HR1.out HC1.out).mono ?_
    rintro e w2 ⟨p2, c2, hp2, hc2, rfl, hC2, hK2⟩
    have HR2 := Lib.hid (HR1.out.kept hK2 (fun h => hsg h.symm))
    have HC2 := Lib.hid hC2
    have HK2 := Lib.hid (HK1.out.trans hK2 (fun _ _ h => h))
    clear hC2 hK2
    go_wp2_with fail
    refine (MA.out w.heap.size k c2 _ (by omega) (by omega) (by omega) hsg HR2.out HC2.out).mono ?_
    rintro e w3 ⟨p3, c3, hp3, hc3, rfl, hC3, hK3⟩
    have HR3 := Lib.hid (HR2.out.kept hK3 (fun h => hsg h.symm))
    have HC3 := Lib.hid hC3
    have HK3 := Lib.hid (HK2.out.trans hK3 (fun _ _ h => h))
    clear hC3 hK3
    go_wp2_with fail
    refine (ME.out w.heap.size p1 p2 p3 c3 _ (by omega) (by omega) (by omega) (by omega) hsg HR3.out HC3.out).mono ?_
    rintro e w4 ⟨p4, c4, hp4, hc4, rfl, hC4, hK4⟩
    have HC4 := Lib.hid hC4
    have HB4 := Lib.hid (OthersKept.below HB0.out (HK3.out.trans hK4 (fun _ _ h => h)) (fun k hk h => by omega))
    clear hC4 hK4
    have x0 : w4.cell? ⟨w.heap.size, 0, none⟩ = some (.int .i64 (c4 : Nat)) := blk_cell HC4.out 0
    have hp0 := (show a ≤ p4 ∧ p4 < b by omega)
    by_cases z0 : c4 = 0
    · have z1 : ((c4 : Nat) : Int) = 0 := by omega
      go_wp2_with fail
      go_ret2
      exact ⟨p4, 1, hp0.1, hp0.2, by omega, rfl, HB4.out⟩
    · have z1 : ¬ ((c4 : Nat) : Int) = 0 := by omega
      by_cases z2 : c4 = 12
      · have z3 : ((c4 : Nat) : Int) = 12 := by omega
        go_wp2_with fail
        go_ret2
        exact ⟨p4, 2, hp0.1, hp0.2, by omega, rfl, HB4.out⟩
      · have z3 : ¬ ((c4 : Nat) : Int) = 12 := by omega
        go_wp2_with fail
        go_ret2
        exact ⟨p4, 0, hp0.1, hp0.2, by omega, rfl, HB4.out⟩
  · have h50i : ¬ (50 : Int) ≤ (l : Int) := by omega
    go_wp2_with fail
    refine (ME.out w.heap.size i j k 0 _ (by omega) (by omega) (by omega) (by omega) hsg HR0.out HC0.out).mono ?_
    rintro e w4 ⟨p4, c4, hp4, hc4, rfl, hC4, hK4⟩
    have HC4 := Lib.hid hC4
    have HB4 := Lib.hid (OthersKept.below HB0.out hK4 (fun k hk h => by omega))
    clear hC4 hK4
    have x0 : w4.cell? ⟨w.heap.size, 0, none⟩ = some (.int .i64 (c4 : Nat)) := blk_cell HC4.out 0
    have hp0 := (show a ≤ p4 ∧ p4 < b by omega)
    by_cases z0 : c4 = 0
    · have z1 : ((c4 : Nat) : Int) = 0 := by omega
      go_wp2_with fail
      go_ret2
      exact ⟨p4, 1, hp0.1, hp0.2, by omega, rfl, HB4.out⟩
    · have z1 : ¬ ((c4 : Nat) : Int) = 0 := by omega
      by_cases z2 : c4 = 12
      · have z3 : ((c4 : Nat) : Int) = 12 := by omega
        go_wp2_with fail
        go_ret2
        exact ⟨p4, 2, hp0.1, hp0.2, by omega, rfl, HB4.out⟩
      · have z3 : ¬ ((c4 : Nat) : Int) = 12 := by omega
        go_wp2_with fail
        go_ret2
        exact ⟨p4, 0, hp0.1, hp0.2, by omega, rfl, HB4.out⟩


end Go.Proofs.Ytjcfnfpilladfaa
