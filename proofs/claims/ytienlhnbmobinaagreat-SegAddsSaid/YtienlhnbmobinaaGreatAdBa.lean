/- Kept of our texts for this claim: SegSort AppTwo -/
import Derived.Test.YtienlhnbmobinaaGreatRows
import Derived.Test.YtienlhnbmobinaaGreatAdAt
import Derived.Test.YtienlhnbmobinaaGreatAdAz
import Derived.Test.YtienlhnbmobinaaGreatAdAs
import Derived.Test.YtienlhnbmobinaaGreatAdAa
import Derived.Test.YtienlhnbmobinaaGreatAdAc
import Derived.Test.YtienlhnbmobinaaGreatAdAb
import Derived.Deep.LoopGhost
import Derived.Sort.LotA
import Derived.Sort.WalkA
import Derived.Deep.CutBlock
import Derived.WalkKit
import Derived.WalkLawsBesides
import Derived.WalkSpells
import Derived.LoopTactic
import Derived.WalkMore
import Derived.LoopN
import Derived.Laws.BitsAllLaws
import Derived.Laws.IdiomStrings
import Derived.BigQuiet
import Derived.Deep.QuietTactic
import Derived.Deep.DeepCutAuto
import Derived.Deep.RegionHeld3
import Derived.Deep.DrawnRows
import Derived.Lib.Hide
import Derived.Outline
import Derived.Deep.DeepMust
import Derived.Handy
section
/- chapter 22: slices.SortStableFunc at rows, fewer than twenty -/
namespace Go.Proofs.YtienlhnbmobinaaGreat
open Go.RowKit
set_option linter.unusedVariables false
set_option linter.unusedSimpArgs false
instance : Inhabited Sg := ⟨Sg.zero⟩
/-- A row of rows that may be sorted in place. -/
structure RowS (w : World) (g n cp : Nat) (d : Array Sg) : Prop where
  size : d.size = n
  cap : n ≤ cp ∧ cp ≤ maxLen
  blk : ∃ cs, w.heap[g]? = some (.cells cs 52 (0, 0)) ∧ ∀ j, j < n → ∀ i v, (d[j]!).cell[i]? = some v → cs[j * 7 + i]? = some v
theorem RowS.lt {w : World} {g n cp : Nat} {d : Array Sg} (h : RowS w g n cp d) : g < w.heap.size := by obtain ⟨cs, hb, _⟩ := h.blk; exact blk_lt hb
theorem RowS.below {w w' : World} {g n cp : Nat} {d : Array Sg} (h : RowS w g n cp d) (hb : Below w.heap.size w w') : RowS w' g n cp d := by
  obtain ⟨cs, h1, h2⟩ := h.blk
  exact ⟨h.size, h.cap, cs, (hb.block g (blk_lt h1)).trans h1, h2⟩
theorem RowS.drew {w : World} {g n cp : Nat} {d : Array Sg} (h : RowS w g n cp d) : RowS w.drew g n cp d := ⟨h.size, h.cap, h.blk⟩
theorem RowS.frozen {w : World} {g n cp : Nat} {d : Array Sg} (h : RowS w g n cp d) (k : Nat) : w.frozen? ⟨g, k, none⟩ = false := by
  obtain ⟨cs, h1, _⟩ := h.blk
  exact blk_frozen h1 k
theorem RowS.cell {w : World} {g n cp : Nat} {d : Array Sg} (h : RowS w g n cp d) (j : Nat) (hj : j < n) (i : Nat) (v : Value) (hv : (d[j]!).cell[i]? = some v) : w.cell? ⟨g, j * 7 + i, none⟩ = some v := by
  obtain ⟨cs, h1, h2⟩ := h.blk
  rw [blk_cell h1]
  exact h2 j hj i v hv
/-- A row laid over another one. -/
def setSeg (W : World) (g k : Nat) (s : Sg) : World := ((((((W.setCell ⟨g, k, none⟩ (.int .u64 s.tx)).setCell ⟨g, k + 1, none⟩ (.int .u8 s.st)).setCell ⟨g, k + 2, none⟩ (.int .u64 s.num)).setCell ⟨g, k + 3, none⟩ (.int .u32 s.fp)).setCell ⟨g, k + 4, none⟩ (.int .u32 s.lp)).setCell ⟨g, k + 5, none⟩ (.int .u32 s.hp)).setCell ⟨g, k + 6, none⟩ (.int .u16 s.hs)
theorem setSeg_kept (W : World) (g k : Nat) (s : Sg) : OthersKept W (setSeg W g k s) (fun x => x = g) := by
  unfold setSeg
  exact ((((((one_kept W g _ _).trans (one_kept _ g _ _) (fun _ _ h => h)).trans (one_kept _ g _ _) (fun _ _ h => h)).trans (one_kept _ g _ _) (fun _ _ h => h)).trans (one_kept _ g _ _) (fun _ _ h => h)).trans (one_kept _ g _ _) (fun _ _ h => h)).trans (one_kept _ g _ _) (fun _ _ h => h)
theorem seg_cells (s : Sg) (i : Nat) (v : Value) (h : s.cell[i]? = some v) : (i = 0 ∧ v = .int .u64 s.tx) ∨ (i = 1 ∧ v = .int .u8 s.st) ∨ (i = 2 ∧ v = .int .u64 s.num) ∨ (i = 3 ∧ v = .int .u32 s.fp) ∨ (i = 4 ∧ v = .int .u32 s.lp) ∨ (i = 5 ∧ v = .int .u32 s.hp) ∨ (i = 6 ∧ v = .int .u16 s.hs) := by
  unfold Sg.cell at h
  match i, h with
  | 0, h => exact .inl ⟨rfl, by simpa using h.symm⟩
  | 1, h => exact .inr (.inl ⟨rfl, by simpa using h.symm⟩)
  | 2, h => exact .inr (.inr (.inl ⟨rfl, by simpa using h.symm⟩))
  | 3, h => exact .inr (.inr (.inr (.inl ⟨rfl, by simpa using h.symm⟩)))
  | 4, h => exact .inr (.inr (.inr (.inr (.inl ⟨rfl, by simpa using h.symm⟩))))
  | 5, h => exact .inr (.inr (.inr (.inr (.inr (.inl ⟨rfl, by simpa using h.symm⟩)))))
  | 6, h => exact .inr (.inr (.inr (.inr (.inr (.inr ⟨rfl, by simpa using h.symm⟩)))))
  | n + 7, h => simp at h
theorem RowS.set {w : World} {g n cp : Nat} {d : Array Sg} (h : RowS w g n cp d) (J : Nat) (s : Sg) (hJ : J < n) : RowS (setSeg w g (J * 7) s) g n cp (d.setIfInBounds J s) := by
  obtain ⟨cs, h1, h2⟩ := h.blk
  have hsz := h.size
  have hbk := blk_set (blk_set (blk_set (blk_set (blk_set (blk_set (blk_set h1 (J * 7) (.int .u64 s.tx)) (J * 7 + 1) (.int .u8 s.st)) (J * 7 + 2) (.int .u64 s.num)) (J * 7 + 3) (.int .u32 s.fp)) (J * 7 + 4) (.int .u32 s.lp)) (J * 7 + 5) (.int .u32 s.hp)) (J * 7 + 6) (.int .u16 s.hs)
  refine ⟨by rw [Array.size_setIfInBounds]; exact hsz, h.cap, _, hbk, ?_⟩
  · intro j hj i v hv
    clear hbk
    have hc : ∀ i, i < 7 → J * 7 + i < cs.size := by
      intro i hi
      have := h2 J hJ i ((d[J]!).cell[i]'(by show i < 7; exact hi)) (List.getElem?_eq_getElem _)
      exact (Array.getElem?_eq_some_iff.1 this).1
    have c0 := hc 0 (by omega)
    have c1 := hc 1 (by omega)
    have c2 := hc 2 (by omega)
    have c3 := hc 3 (by omega)
    have c4 := hc 4 (by omega)
    have c5 := hc 5 (by omega)
    have c6 := hc 6 (by omega)
    clear hc
    by_cases hjJ : j = J
    · subst hjJ
      rw [getElem!_pos _ j (by rw [Array.size_setIfInBounds]; omega), Array.getElem_setIfInBounds_self] at hv
      rcases seg_cells s i v hv with ⟨rfl, rfl⟩ | ⟨rfl, rfl⟩ | ⟨rfl, rfl⟩ | ⟨rfl, rfl⟩ | ⟨rfl, rfl⟩ | ⟨rfl, rfl⟩ | ⟨rfl, rfl⟩ <;> (simp only [Array.getElem?_setIfInBounds, Array.size_setIfInBounds]; simp; try omega)
    · have e : (d.setIfInBounds J s)[j]! = d[j]! := by
        rw [getElem!_pos _ j (by rw [Array.size_setIfInBounds]; omega), getElem!_pos d j (by omega)]
        rw [Array.getElem_setIfInBounds]
        exact if_neg (Ne.symm hjJ)
      rw [e] at hv
      have hi := h2 j hj i v hv
      have hi7 : i < 7 := by rcases seg_cells _ i v hv with ⟨h, _⟩ | ⟨h, _⟩ | ⟨h, _⟩ | ⟨h, _⟩ | ⟨h, _⟩ | ⟨h, _⟩ | ⟨h, _⟩ <;> omega
      have hne : ∀ q, q < 7 → ¬ (J * 7 + q = j * 7 + i) := by
        intro q hq
        rcases Nat.lt_or_ge j J with hlt | hge <;> omega
      have n0 : ¬ (J * 7 = j * 7 + i) := by have := hne 0 (by omega); omega
      rw [Array.getElem?_setIfInBounds_ne (hne 6 (by omega)), Array.getElem?_setIfInBounds_ne (hne 5 (by omega)), Array.getElem?_setIfInBounds_ne (hne 4 (by omega)), Array.getElem?_setIfInBounds_ne (hne 3 (by omega)), Array.getElem?_setIfInBounds_ne (hne 2 (by omega)), Array.getElem?_setIfInBounds_ne (hne 1 (by omega)), Array.getElem?_setIfInBounds_ne n0]
      exact hi
theorem RowS.swap {w : World} {g n cp : Nat} {d : Array Sg} (h : RowS w g n cp d) (i j : Nat) (hi : i < n) (hj : j < n) : RowS (setSeg (setSeg w g (i * 7) d[j]!) g (j * 7) d[i]!) g n cp (Go.Sort.swp d i j) := (h.set i _ hi).set j _ hj
theorem OwnSegs.row {w : World} {base : Nat} {v : Value} {L : List Sg} (h : OwnSegs w base v L) (h0 : 0 < L.length) : ∃ g cp, v = .slice (some ⟨g, 0, none⟩) L.length cp ∧ base ≤ g ∧ RowS w g L.length cp L.toArray := by
  obtain ⟨hl, h1⟩ := h
  rcases h1 with ⟨rfl, h0'⟩ | ⟨g, cap, cur, rfl, hg, hb, hn, hc, hz, ht⟩
  · omega
  · refine ⟨g, cap, rfl, hg, by simp, ⟨hn, hc⟩, cur, hb, fun j hj i v hv => ?_⟩
    rw [getElem!_pos _ j (by simpa using hj)] at hv
    have h3 := flat_getS L j i v hj (by simpa using hv)
    rw [← ht, List.getElem?_take] at h3
    split at h3
    · simpa using h3
    · cases h3
theorem RowS.at_ {w : World} {g n cp : Nat} {d : Array Sg} (h : RowS w g n cp d) : SegsAt w (.slice (some ⟨g, 0, none⟩) n cp) d.toList := by
  obtain ⟨cs, h1, h2⟩ := h.blk
  have hs := h.size
  refine ⟨_, cp, by simp [hs], by simp [hs]; exact h.cap.1, h.cap.2, fun _ => ⟨g, 0, rfl, blk_lt h1, fun j hj i v hv => ?_⟩⟩
  simp at hj
  rw [show 0 + j * 7 + i = j * 7 + i by omega]
  refine h.cell j (by omega) i v ?_
  rw [getElem!_pos d j hj]
  simpa using hv
theorem cmpAL_iff (x y : Sg) : cmpAL x y = true ↔ x.tx < y.tx := by
  unfold cmpAL cmpA
  rw [decide_eq_true_eq, cmpC_neg]
theorem cmpHL_iff (x y : Sg) : cmpHL x y = true ↔ x.num < y.num ∨ (x.num = y.num ∧ x.tx < y.tx) := by
  unfold cmpHL cmpH orI
  rw [decide_eq_true_eq]
  by_cases h : cmpC x.num y.num = 0
  · rw [if_pos h, cmpC_neg]
    have := (cmpC_zero _ _).1 h
    omega
  · rw [if_neg h, cmpC_neg]
    have : x.num ≠ y.num := fun e => h ((cmpC_zero _ _).2 e)
    omega
theorem lt_false {lt : Sg → Sg → Bool} {x y : Sg} : lt x y = false ↔ ¬ lt x y = true := by simp
theorem cmpA_swo : Go.Sort.SWO cmpAL := ⟨fun x => by rw [lt_false (lt := cmpAL), cmpAL_iff]; omega, fun x y z h1 h2 => by rw [cmpAL_iff] at *; omega, fun x y z h1 h2 => by rw [lt_false (lt := cmpAL), cmpAL_iff] at *; omega⟩
theorem cmpH_swo : Go.Sort.SWO cmpHL := ⟨fun x => by rw [lt_false (lt := cmpHL), cmpHL_iff]; omega, fun x y z h1 h2 => by rw [cmpHL_iff] at *; omega, fun x y z h1 h2 => by rw [lt_false (lt := cmpHL), cmpHL_iff] at *; omega⟩
theorem sorted_list {lt : Sg → Sg → Bool} (hS : Go.Sort.SWO lt) (d : Array Sg) : (Go.Sort.insertionSort lt d 0 d.size).toList.Perm d.toList ∧ (Go.Sort.insertionSort lt d 0 d.size).toList.Pairwise (fun a b => lt b a = false) := by
  obtain ⟨⟨h1, _, h3⟩, h4⟩ := Go.Sort.insertionSort_holds hS d 0 d.size (Nat.zero_le _) (Nat.le_refl _)
  refine ⟨?_, ?_⟩
  · have e1 : ∀ (r : Array Sg) n, r.size = n → r.extract 0 n = r := by
      intro r n h
      subst h
      exact Array.extract_size
    rw [e1 _ _ h1, e1 d _ rfl] at h3
    exact h3
  · rw [List.pairwise_iff_getElem]
    intro i j hi hj hij
    simp at hi hj
    have := h4 i j (Nat.zero_le _) hij (by omega)
    rw [getElem!_pos _ j hj, getElem!_pos _ i hi] at this
    simpa using this
set_option maxHeartbeats 8000000 in
set_option maxRecDepth 100000 in
theorem insA_any (g n cp a b : Nat) (d : Array Sg) (w : World) (hn : n ≤ 1000000) (hab : a ≤ b) (hb : b ≤ n) (h : RowS w g n cp d) :
    Calls Tryz.prog 89 #[.slice (some ⟨g, 0, none⟩) n cp, .int .i64 a, .int .i64 b, .func (.func 42) #[] #[]] w fun e w' => e = .returned (.tuple #[]) ∧ RowS w' g n cp (Go.Sort.insertionSort cmpAL d a b) ∧ OthersKept w w' (fun k => k = g) := by
  have hcp : cp ≤ 2 ^ 63 - 1 := h.cap.2
  have hnc : n ≤ cp := h.cap.1
  have H := Lib.hid h
  have LS := Lib.hid cmpA_any
  clear h
  have v0 : IntKind.i64.wrap ((a : Int) + 1) = ((a + 1 : Nat) : Int) := by rw [show ((a + 1 : Nat) : Int) = (a : Int) + 1 by omega]; exact IntWalk.i64_in _ ⟨by omega, by omega⟩
  go_enter Tryz.func89, Tryz.ntmps89
  go_wp2_with fail
  go_loopw [8] (fun s6 wr => ∃ (i : Nat) (dk : Array Sg), s6 = .int .i64 i ∧ a < i ∧ i ≤ b + 1 ∧ Hid (RowS wr g n cp dk) ∧ Hid (OthersKept w wr (fun k => k = g)) ∧ Hid (Go.Sort.insOuter cmpAL a b i dk = Go.Sort.insertionSort cmpAL d a b)) (fun v _ => b + 1 - (intOf v).toNat)
  case atStart => exact ⟨a + 1, d, rfl, by omega, by omega, H, Lib.hid (OthersKept.of_below (Below.refl _ _)), rfl⟩
  case round =>
    obtain ⟨i, dk, rfl, hai, hib, HR, HK, hO⟩ := hrel
    by_cases hc : i < b
    · have hci : (i : Int) < (b : Int) := by omega
      go_wp2_with fail
      go_loopw [9] (fun s7 wr2 => ∃ (j : Nat) (dj : Array Sg), s7 = .int .i64 j ∧ a ≤ j ∧ j ≤ i ∧ Hid (RowS wr2 g n cp dj) ∧ Hid (OthersKept w wr2 (fun k => k = g)) ∧ Hid (Go.Sort.insInner cmpAL a j dj = Go.Sort.insInner cmpAL a i dk)) (fun v _ => (intOf v).toNat)
      case atStart => exact ⟨i, dk, rfl, by omega, Nat.le_refl _, HR, HK, rfl⟩
      case round =>
        obtain ⟨j, dj, rfl, haj, hji, HRj, HKj, hI⟩ := hrel
        have hgl := HRj.out.lt
        have OUT : Hid ((j ≤ a ∨ cmpAL dj[j]! dj[j - 1]! = false) → Go.Sort.insOuter cmpAL a b (i + 1) dj = Go.Sort.insertionSort cmpAL d a b) := by
          show _ → _
          intro hs
          rw [← hO.out, Go.Proofs.insOuter_go _ _ _ _ _ hc, ← hI.out, Go.Proofs.insInner_stop _ _ _ _ hs]
        by_cases hja : a < j
        · obtain ⟨m, rfl⟩ : ∃ m, j = m + 1 := ⟨j - 1, by omega⟩
          have c1 := fun i v h => HRj.out.cell (m + 1) (by omega) i v h
          have c2 := fun i v h => HRj.out.cell m (by omega) i v h
          have v1 : IntKind.i64.wrap (((m + 1 : Nat) : Int) - 1) = (m : Int) := by rw [show ((m + 1 : Nat) : Int) - 1 = (m : Int) by omega]; exact IntWalk.i64_in _ ⟨by omega, by omega⟩
          have SW := Lib.hid fun W (hW : Below wr.heap.size wr W) => (HRj.out.below hW).swap (m + 1) m (by omega) (by omega)
          have OUT2 : Hid (cmpAL dj[m + 1]! dj[m]! = false → Go.Sort.insOuter cmpAL a b (i + 1) dj = Go.Sort.insertionSort cmpAL d a b) := fun h => OUT.out (.inr h)
          have GO : Hid (cmpAL dj[m + 1]! dj[m]! = true → Go.Sort.insInner cmpAL a m (Go.Sort.swp dj (m + 1) m) = Go.Sort.insInner cmpAL a i dk) := by
            show _ → _
            intro hl
            rw [← hI.out, Go.Proofs.insInner_go cmpAL a (m + 1) dj (by omega) hl]
            rfl
          generalize dj[m + 1]! = x at *
          generalize dj[m]! = y at *
          obtain ⟨J, hJ⟩ : ∃ J, J = m + 1 := ⟨_, rfl⟩
          have hJm : J ≠ m := by omega
          rw [← hJ] at c1 v1 SW hji hja
          have q1 : (0 : Int) ≤ (J : Int) := by omega
          have q2 : (J : Int) < (n : Int) := by omega
          have q3 : (0 : Int) ≤ (m : Int) := by omega
          have q4 : (m : Int) < (n : Int) := by omega
          have q5 : (a : Int) < (J : Int) := by omega
          have HJ := Lib.hid hJ
          have HAJ := Lib.hid haj
          rw [← hJ]
          obtain ⟨x0, x1, x2, x3, x4, x5, x6⟩ := x
          obtain ⟨y0, y1, y2, y3, y4, y5, y6⟩ := y
          have b0 := c1 0 _ rfl
          have b1 := c1 1 _ rfl
          have b2 := c1 2 _ rfl
          have b3 := c1 3 _ rfl
          have b4 := c1 4 _ rfl
          have b5 := c1 5 _ rfl
          have b6 := c1 6 _ rfl
          have d0 := c2 0 _ rfl
          have d1 := c2 1 _ rfl
          have d2 := c2 2 _ rfl
          have d3 := c2 3 _ rfl
          have d4 := c2 4 _ rfl
          have d5 := c2 5 _ rfl
          have d6 := c2 6 _ rfl
          clear c1 c2 OUT hI haj hJ
          simp only [Nat.add_zero] at b0 b1 b2 b3 b4 b5 b6 d0 d1 d2 d3 d4 d5 d6
          have L1 := Lib.hid fun W => LS.out ⟨x0, x1, x2, x3, x4, x5, x6⟩ ⟨y0, y1, y2, y3, y4, y5, y6⟩ W
          unfold sgV at L1
          simp only at L1
          obtain ⟨c, hcx⟩ : ∃ c, c = cmpA ⟨x0, x1, x2, x3, x4, x5, x6⟩ ⟨y0, y1, y2, y3, y4, y5, y6⟩ := ⟨_, rfl⟩
          have hcl : cmpAL ⟨x0, x1, x2, x3, x4, x5, x6⟩ ⟨y0, y1, y2, y3, y4, y5, y6⟩ = decide (c < 0) := by rw [hcx]; rfl
          rw [← hcx] at L1
          rw [hcl] at OUT2 GO
          clear hcx hcl
          have e0 := ext_cell b0 hgl
          have e1 := ext_cell b1 hgl
          have e2 := ext_cell b2 hgl
          have e3 := ext_cell b3 hgl
          have e4 := ext_cell b4 hgl
          have e5 := ext_cell b5 hgl
          have e6 := ext_cell b6 hgl
          have k0 := ext_cell d0 hgl
          have k1 := ext_cell d1 hgl
          have k2 := ext_cell d2 hgl
          have k3 := ext_cell d3 hgl
          have k4 := ext_cell d4 hgl
          have k5 := ext_cell d5 hgl
          have k6 := ext_cell d6 hgl
          clear b0 b1 b2 b3 b4 b5 b6 d0 d1 d2 d3 d4 d5 d6
          by_cases hl : c < 0
          · have G1 := Lib.hid (GO.out (decide_eq_true hl))
            clear OUT2 GO
            go_upto_region 4 with fail
            refine wp_region_ext wr.heap.size (by kernel_rfl) (by kernel_rfl) ?_
            repeat (go_big_quiet_step (first | (go_at_call 42; with_reducible exact ext_call _ (Nat.le_refl _) (L1.out _))))
            refine wpQuiet_nil ?_
            rintro _ ⟨X, rfl⟩
            have HX := Lib.hid X.below
            have b0 := e0 X
            have b1 := e1 X
            have b2 := e2 X
            have b3 := e3 X
            have b4 := e4 X
            have b5 := e5 X
            have b6 := e6 X
            have d0 := k0 X
            have d1 := k1 X
            have d2 := k2 X
            have d3 := k3 X
            have d4 := k4 X
            have d5 := k5 X
            have d6 := k6 X
            have FZ := Lib.hid fun k => (HRj.out.below HX.out).frozen k
            have SW2 := Lib.hid (SW.out _ HX.out)
            clear e0 e1 e2 e3 e4 e5 e6 k0 k1 k2 k3 k4 k5 k6 SW L1
            generalize X.val = wx at *
            have n1 : ¬ J = m := hJm
            have n2 : ¬ m = J := Ne.symm hJm
            have fa0 := FZ.out (J * 7)
            have fa1 := FZ.out (J * 7 + 1)
            have fa2 := FZ.out (J * 7 + 2)
            have fa3 := FZ.out (J * 7 + 3)
            have fa4 := FZ.out (J * 7 + 4)
            have fa5 := FZ.out (J * 7 + 5)
            have fa6 := FZ.out (J * 7 + 6)
            have fb0 := FZ.out (m * 7)
            have fb1 := FZ.out (m * 7 + 1)
            have fb2 := FZ.out (m * 7 + 2)
            have fb3 := FZ.out (m * 7 + 3)
            have fb4 := FZ.out (m * 7 + 4)
            have fb5 := FZ.out (m * 7 + 5)
            have fb6 := FZ.out (m * 7 + 6)
            clear FZ
            go_upto_region 6 with fail
            go_region
            all_goals go_wp2_with fail
            have KZ : OthersKept wx (setSeg (setSeg wx g (J * 7) ⟨y0, y1, y2, y3, y4, y5, y6⟩) g (m * 7) ⟨x0, x1, x2, x3, x4, x5, x6⟩) (fun k => k = g) := (setSeg_kept _ _ _ _).trans (setSeg_kept _ _ _ _) (fun _ _ h => h)
            have KZ2 := Lib.hid (((HKj.out.then_below HX.out).trans KZ (fun _ _ h => h)).then_below (Below.refl _ _).drew)
            have SW3 := Lib.hid SW2.out.drew
            unfold setSeg at KZ2 SW3
            simp only at KZ2 SW3
            go_roundw
            case rel => exact ⟨m, _, rfl, by have := HJ.out; omega, by have := HJ.out; omega, SW3, KZ2, Lib.hid (by rw [HJ.out]; exact G1.out)⟩
            case measure => have := HJ.out; simp [intOf]; omega
          · have G1 := Lib.hid (OUT2.out (decide_eq_false hl))
            clear OUT2 GO
            go_upto_region 4 with fail
            refine wp_region_ext wr.heap.size (by kernel_rfl) (by kernel_rfl) ?_
            repeat (go_big_quiet_step (first | (go_at_call 42; with_reducible exact ext_call _ (Nat.le_refl _) (L1.out _))))
            refine wpQuiet_nil ?_
            rintro _ ⟨X, rfl⟩
            have HX := Lib.hid X.below
            clear e0 e1 e2 e3 e4 e5 e6 k0 k1 k2 k3 k4 k5 k6 L1
            go_wp2_with fail
            go_roundw
            case rel => exact ⟨i + 1, dj, by go_num, by omega, by omega, Lib.hid (HRj.out.below HX.out), Lib.hid (HKj.out.then_below HX.out), G1⟩
            case measure => simp [intOf]; omega
        · have G1 := Lib.hid (OUT.out (.inl (by omega)))
          have hja2 : ¬ (a : Int) < (j : Int) := by omega
          clear OUT
          go_upto_region 4 with fail
          refine wp_region_ext wr.heap.size (by kernel_rfl) (by kernel_rfl) ?_
          repeat (go_big_quiet_step (fail))
          refine wpQuiet_nil ?_
          rintro _ ⟨X, rfl⟩
          have HX := Lib.hid X.below
          go_wp2_with fail
          go_roundw
          case rel => exact ⟨i + 1, dj, by go_num, by omega, by omega, Lib.hid (HRj.out.below HX.out), Lib.hid (HKj.out.then_below HX.out), G1⟩
          case measure => simp [intOf]; omega
    · have hci : ¬ (i : Int) < (b : Int) := by omega
      go_wp2_with fail
      go_end0
      exact ⟨rfl, by rw [← hO.out, Go.Proofs.insOuter_stop _ _ _ _ _ hc]; exact HR.out, HK.out⟩
set_option maxHeartbeats 8000000 in
set_option maxRecDepth 100000 in
theorem insH_any (g n cp a b : Nat) (d : Array Sg) (w : World) (hn : n ≤ 1000000) (hab : a ≤ b) (hb : b ≤ n) (h : RowS w g n cp d) :
    Calls Tryz.prog 89 #[.slice (some ⟨g, 0, none⟩) n cp, .int .i64 a, .int .i64 b, .func (.func 39) #[] #[]] w fun e w' => e = .returned (.tuple #[]) ∧ RowS w' g n cp (Go.Sort.insertionSort cmpHL d a b) ∧ OthersKept w w' (fun k => k = g) := by
  have hcp : cp ≤ 2 ^ 63 - 1 := h.cap.2
  have hnc : n ≤ cp := h.cap.1
  have H := Lib.hid h
  have LS := Lib.hid cmpH_any
  clear h
  have v0 : IntKind.i64.wrap ((a : Int) + 1) = ((a + 1 : Nat) : Int) := by rw [show ((a + 1 : Nat) : Int) = (a : Int) + 1 by omega]; exact IntWalk.i64_in _ ⟨by omega, by omega⟩
  go_enter Tryz.func89, Tryz.ntmps89
  go_wp2_with fail
  go_loopw [8] (fun s6 wr => ∃ (i : Nat) (dk : Array Sg), s6 = .int .i64 i ∧ a < i ∧ i ≤ b + 1 ∧ Hid (RowS wr g n cp dk) ∧ Hid (OthersKept w wr (fun k => k = g)) ∧ Hid (Go.Sort.insOuter cmpHL a b i dk = Go.Sort.insertionSort cmpHL d a b)) (fun v _ => b + 1 - (intOf v).toNat)
  case atStart => exact ⟨a + 1, d, rfl, by omega, by omega, H, Lib.hid (OthersKept.of_below (Below.refl _ _)), rfl⟩
  case round =>
    obtain ⟨i, dk, rfl, hai, hib, HR, HK, hO⟩ := hrel
    by_cases hc : i < b
    · have hci : (i : Int) < (b : Int) := by omega
      go_wp2_with fail
      go_loopw [9] (fun s7 wr2 => ∃ (j : Nat) (dj : Array Sg), s7 = .int .i64 j ∧ a ≤ j ∧ j ≤ i ∧ Hid (RowS wr2 g n cp dj) ∧ Hid (OthersKept w wr2 (fun k => k = g)) ∧ Hid (Go.Sort.insInner cmpHL a j dj = Go.Sort.insInner cmpHL a i dk)) (fun v _ => (intOf v).toNat)
      case atStart => exact ⟨i, dk, rfl, by omega, Nat.le_refl _, HR, HK, rfl⟩
      case round =>
        obtain ⟨j, dj, rfl, haj, hji, HRj, HKj, hI⟩ := hrel
        have hgl := HRj.out.lt
        have OUT : Hid ((j ≤ a ∨ cmpHL dj[j]! dj[j - 1]! = false) → Go.Sort.insOuter cmpHL a b (i + 1) dj = Go.Sort.insertionSort cmpHL d a b) := by
          show _ → _
          intro hs
          rw [← hO.out, Go.Proofs.insOuter_go _ _ _ _ _ hc, ← hI.out, Go.Proofs.insInner_stop _ _ _ _ hs]
        by_cases hja : a < j
        · obtain ⟨m, rfl⟩ : ∃ m, j = m + 1 := ⟨j - 1, by omega⟩
          have c1 := fun i v h => HRj.out.cell (m + 1) (by omega) i v h
          have c2 := fun i v h => HRj.out.cell m (by omega) i v h
          have v1 : IntKind.i64.wrap (((m + 1 : Nat) : Int) - 1) = (m : Int) := by rw [show ((m + 1 : Nat) : Int) - 1 = (m : Int) by omega]; exact IntWalk.i64_in _ ⟨by omega, by omega⟩
          have SW := Lib.hid fun W (hW : Below wr.heap.size wr W) => (HRj.out.below hW).swap (m + 1) m (by omega) (by omega)
          have OUT2 : Hid (cmpHL dj[m + 1]! dj[m]! = false → Go.Sort.insOuter cmpHL a b (i + 1) dj = Go.Sort.insertionSort cmpHL d a b) := fun h => OUT.out (.inr h)
          have GO : Hid (cmpHL dj[m + 1]! dj[m]! = true → Go.Sort.insInner cmpHL a m (Go.Sort.swp dj (m + 1) m) = Go.Sort.insInner cmpHL a i dk) := by
            show _ → _
            intro hl
            rw [← hI.out, Go.Proofs.insInner_go cmpHL a (m + 1) dj (by omega) hl]
            rfl
          generalize dj[m + 1]! = x at *
          generalize dj[m]! = y at *
          obtain ⟨J, hJ⟩ : ∃ J, J = m + 1 := ⟨_, rfl⟩
          have hJm : J ≠ m := by omega
          rw [← hJ] at c1 v1 SW hji hja
          have q1 : (0 : Int) ≤ (J : Int) := by omega
          have q2 : (J : Int) < (n : Int) := by omega
          have q3 : (0 : Int) ≤ (m : Int) := by omega
          have q4 : (m : Int) < (n : Int) := by omega
          have q5 : (a : Int) < (J : Int) := by omega
          have HJ := Lib.hid hJ
          have HAJ := Lib.hid haj
          rw [← hJ]
          obtain ⟨x0, x1, x2, x3, x4, x5, x6⟩ := x
          obtain ⟨y0, y1, y2, y3, y4, y5, y6⟩ := y
          have b0 := c1 0 _ rfl
          have b1 := c1 1 _ rfl
          have b2 := c1 2 _ rfl
          have b3 := c1 3 _ rfl
          have b4 := c1 4 _ rfl
          have b5 := c1 5 _ rfl
          have b6 := c1 6 _ rfl
          have d0 := c2 0 _ rfl
          have d1 := c2 1 _ rfl
          have d2 := c2 2 _ rfl
          have d3 := c2 3 _ rfl
          have d4 := c2 4 _ rfl
          have d5 := c2 5 _ rfl
          have d6 := c2 6 _ rfl
          clear c1 c2 OUT hI haj hJ
          simp only [Nat.add_zero] at b0 b1 b2 b3 b4 b5 b6 d0 d1 d2 d3 d4 d5 d6
          have L1 := Lib.hid fun W => LS.out ⟨x0, x1, x2, x3, x4, x5, x6⟩ ⟨y0, y1, y2, y3, y4, y5, y6⟩ W
          unfold sgV at L1
          simp only at L1
          obtain ⟨c, hcx⟩ : ∃ c, c = cmpH ⟨x0, x1, x2, x3, x4, x5, x6⟩ ⟨y0, y1, y2, y3, y4, y5, y6⟩ := ⟨_, rfl⟩
          have hcl : cmpHL ⟨x0, x1, x2, x3, x4, x5, x6⟩ ⟨y0, y1, y2, y3, y4, y5, y6⟩ = decide (c < 0) := by rw [hcx]; rfl
          rw [← hcx] at L1
          rw [hcl] at OUT2 GO
          clear hcx hcl
          have e0 := ext_cell b0 hgl
          have e1 := ext_cell b1 hgl
          have e2 := ext_cell b2 hgl
          have e3 := ext_cell b3 hgl
          have e4 := ext_cell b4 hgl
          have e5 := ext_cell b5 hgl
          have e6 := ext_cell b6 hgl
          have k0 := ext_cell d0 hgl
          have k1 := ext_cell d1 hgl
          have k2 := ext_cell d2 hgl
          have k3 := ext_cell d3 hgl
          have k4 := ext_cell d4 hgl
          have k5 := ext_cell d5 hgl
          have k6 := ext_cell d6 hgl
          clear b0 b1 b2 b3 b4 b5 b6 d0 d1 d2 d3 d4 d5 d6
          by_cases hl : c < 0
          · have G1 := Lib.hid (GO.out (decide_eq_true hl))
            clear OUT2 GO
            go_upto_region 4 with fail
            refine wp_region_ext wr.heap.size (by kernel_rfl) (by kernel_rfl) ?_
            repeat (go_big_quiet_step (first | (go_at_call 39; with_reducible exact ext_call _ (Nat.le_refl _) (L1.out _))))
            refine wpQuiet_nil ?_
            rintro _ ⟨X, rfl⟩
            have HX := Lib.hid X.below
            have b0 := e0 X
            have b1 := e1 X
            have b2 := e2 X
            have b3 := e3 X
            have b4 := e4 X
            have b5 := e5 X
            have b6 := e6 X
            have d0 := k0 X
            have d1 := k1 X
            have d2 := k2 X
            have d3 := k3 X
            have d4 := k4 X
            have d5 := k5 X
            have d6 := k6 X
            have FZ := Lib.hid fun k => (HRj.out.below HX.out).frozen k
            have SW2 := Lib.hid (SW.out _ HX.out)
            clear e0 e1 e2 e3 e4 e5 e6 k0 k1 k2 k3 k4 k5 k6 SW L1
            generalize X.val = wx at *
            have n1 : ¬ J = m := hJm
            have n2 : ¬ m = J := Ne.symm hJm
            have fa0 := FZ.out (J * 7)
            have fa1 := FZ.out (J * 7 + 1)
            have fa2 := FZ.out (J * 7 + 2)
            have fa3 := FZ.out (J * 7 + 3)
            have fa4 := FZ.out (J * 7 + 4)
            have fa5 := FZ.out (J * 7 + 5)
            have fa6 := FZ.out (J * 7 + 6)
            have fb0 := FZ.out (m * 7)
            have fb1 := FZ.out (m * 7 + 1)
            have fb2 := FZ.out (m * 7 + 2)
            have fb3 := FZ.out (m * 7 + 3)
            have fb4 := FZ.out (m * 7 + 4)
            have fb5 := FZ.out (m * 7 + 5)
            have fb6 := FZ.out (m * 7 + 6)
            clear FZ
            go_upto_region 6 with fail
            go_region
            all_goals go_wp2_with fail
            have KZ : OthersKept wx (setSeg (setSeg wx g (J * 7) ⟨y0, y1, y2, y3, y4, y5, y6⟩) g (m * 7) ⟨x0, x1, x2, x3, x4, x5, x6⟩) (fun k => k = g) := (setSeg_kept _ _ _ _).trans (setSeg_kept _ _ _ _) (fun _ _ h => h)
            have KZ2 := Lib.hid (((HKj.out.then_below HX.out).trans KZ (fun _ _ h => h)).then_below (Below.refl _ _).drew)
            have SW3 := Lib.hid SW2.out.drew
            unfold setSeg at KZ2 SW3
            simp only at KZ2 SW3
            go_roundw
            case rel => exact ⟨m, _, rfl, by have := HJ.out; omega, by have := HJ.out; omega, SW3, KZ2, Lib.hid (by rw [HJ.out]; exact G1.out)⟩
            case measure => have := HJ.out; simp [intOf]; omega
          · have G1 := Lib.hid (OUT2.out (decide_eq_false hl))
            clear OUT2 GO
            go_upto_region 4 with fail
            refine wp_region_ext wr.heap.size (by kernel_rfl) (by kernel_rfl) ?_
            repeat (go_big_quiet_step (first | (go_at_call 39; with_reducible exact ext_call _ (Nat.le_refl _) (L1.out _))))
            refine wpQuiet_nil ?_
            rintro _ ⟨X, rfl⟩
            have HX := Lib.hid X.below
            clear e0 e1 e2 e3 e4 e5 e6 k0 k1 k2 k3 k4 k5 k6 L1
            go_wp2_with fail
            go_roundw
            case rel => exact ⟨i + 1, dj, by go_num, by omega, by omega, Lib.hid (HRj.out.below HX.out), Lib.hid (HKj.out.then_below HX.out), G1⟩
            case measure => simp [intOf]; omega
        · have G1 := Lib.hid (OUT.out (.inl (by omega)))
          have hja2 : ¬ (a : Int) < (j : Int) := by omega
          clear OUT
          go_upto_region 4 with fail
          refine wp_region_ext wr.heap.size (by kernel_rfl) (by kernel_rfl) ?_
          repeat (go_big_quiet_step (fail))
          refine wpQuiet_nil ?_
          rintro _ ⟨X, rfl⟩
          have HX := Lib.hid X.below
          go_wp2_with fail
          go_roundw
          case rel => exact ⟨i + 1, dj, by go_num, by omega, by omega, Lib.hid (HRj.out.below HX.out), Lib.hid (HKj.out.then_below HX.out), G1⟩
          case measure => simp [intOf]; omega
    · have hci : ¬ (i : Int) < (b : Int) := by omega
      go_wp2_with fail
      go_end0
      exact ⟨rfl, by rw [← hO.out, Go.Proofs.insOuter_stop _ _ _ _ _ hc]; exact HR.out, HK.out⟩
set_option maxHeartbeats 4000000 in
set_option maxRecDepth 100000 in
theorem stabA_any (g n cp : Nat) (d : Array Sg) (w : World) (hn : n < 20) (h : RowS w g n cp d) :
    Calls Tryz.prog 72 #[.slice (some ⟨g, 0, none⟩) n cp, .int .i64 n, .func (.func 42) #[] #[]] w fun e w' => e = .returned (.tuple #[]) ∧ RowS w' g n cp (Go.Sort.insertionSort cmpAL d 0 n) ∧ OthersKept w w' (fun k => k = g) := by
  have C := Lib.hid fun W (hW : RowS W g n cp d) => insA_any g n cp 0 n d W (by omega) (Nat.zero_le _) (Nat.le_refl _) hW
  have H := Lib.hid h
  clear h
  generalize Go.Sort.insertionSort cmpAL d 0 n = r at *
  have q1 : ¬ (20 : Int) ≤ (n : Int) := by omega
  have q2 : ¬ (20 : Int) < (n : Int) := by omega
  go_enter Tryz.func72, Tryz.ntmps72
  go_wp2_with fail
  go_loopw [7, 8] (fun s7 s8 wr => s7 = .int .i64 0 ∧ s8 = .int .i64 20 ∧ wr = w) (fun _ _ _ => 0)
  case atStart => exact ⟨rfl, rfl, rfl⟩
  case round =>
    obtain ⟨rfl, rfl, rfl⟩ := hrel
    go_wp2_with fail
    refine (C.out _ H.out).mono ?_
    rintro e w1 ⟨rfl, h1, h2⟩
    have H1 := Lib.hid h1
    have K1 := Lib.hid h2
    clear h1 h2 C H
    go_wp2_with fail
    go_loopw [6] (fun s6 wr9 => s6 = .int .i64 20 ∧ wr9 = w1) (fun _ _ => 0)
    case atStart => exact ⟨rfl, rfl⟩
    case round =>
      obtain ⟨rfl, rfl⟩ := hrel
      go_wp2_with fail
      go_end0
      exact ⟨rfl, H1.out, K1.out⟩
set_option maxHeartbeats 4000000 in
set_option maxRecDepth 100000 in
theorem sortA_any (g n cp : Nat) (d : Array Sg) (w : World) (hn : n < 20) (h : RowS w g n cp d) :
    Calls Tryz.prog 38 #[.slice (some ⟨g, 0, none⟩) n cp, .func (.func 42) #[] #[]] w fun e w' => e = .returned (.tuple #[]) ∧ RowS w' g n cp (Go.Sort.insertionSort cmpAL d 0 n) ∧ OthersKept w w' (fun k => k = g) := by
  have C := Lib.hid fun W (hW : RowS W g n cp d) => stabA_any g n cp d W hn hW
  have H := Lib.hid h
  clear h
  generalize Go.Sort.insertionSort cmpAL d 0 n = r at *
  go_enter Tryz.func38, Tryz.ntmps38
  go_wp2_with fail
  refine (C.out _ H.out).mono ?_
  rintro e w1 ⟨rfl, h1, h2⟩
  have H1 := Lib.hid h1
  have K1 := Lib.hid h2
  clear h1 h2 C H
  go_wp2_with fail
  go_end0
  exact ⟨rfl, H1.out, K1.out⟩
set_option maxHeartbeats 4000000 in
set_option maxRecDepth 100000 in
theorem sortnilA_any (w : World) : Calls Tryz.prog 38 #[.slice none 0 0, .func (.func 42) #[] #[]] w fun e w' => e = .returned (.tuple #[]) ∧ w = w' := by
  have C1 : Hid (∀ W, Calls Tryz.prog 89 #[.slice none 0 0, .int .i64 0, .int .i64 0, .func (.func 42) #[] #[]] W fun e w' => e = .returned (.tuple #[]) ∧ W = w') := by
    show ∀ _, _
    intro W
    go_enter Tryz.func89, Tryz.ntmps89
    go_wp2_with fail
    go_loopw [8] (fun s8 wr => s8 = .int .i64 1 ∧ wr = W) (fun _ _ => 0)
    case atStart => exact ⟨rfl, rfl⟩
    case round =>
      obtain ⟨rfl, rfl⟩ := hrel
      go_wp2_with fail
      go_end0
      exact ⟨rfl, rfl⟩
  have C2 : Hid (∀ W, Calls Tryz.prog 72 #[.slice none 0 0, .int .i64 0, .func (.func 42) #[] #[]] W fun e w' => e = .returned (.tuple #[]) ∧ W = w') := by
    show ∀ _, _
    intro W
    go_enter Tryz.func72, Tryz.ntmps72
    go_wp2_with fail
    go_loopw [7, 8] (fun s7 s8 wr => s7 = .int .i64 0 ∧ s8 = .int .i64 20 ∧ wr = W) (fun _ _ _ => 0)
    case atStart => exact ⟨rfl, rfl, rfl⟩
    case round =>
      obtain ⟨rfl, rfl, rfl⟩ := hrel
      go_wp2_with fail
      refine (C1.out _).mono ?_
      rintro e w1 ⟨rfl, rfl⟩
      go_wp2_with fail
      go_loopw [6] (fun s6 wr9 => s6 = .int .i64 20 ∧ wr9 = wr) (fun _ _ => 0)
      case atStart => exact ⟨rfl, rfl⟩
      case round =>
        obtain ⟨rfl, rfl⟩ := hrel
        go_wp2_with fail
        go_end0
        exact ⟨rfl, rfl⟩
  go_enter Tryz.func38, Tryz.ntmps38
  go_wp2_with fail
  refine (C2.out _).mono ?_
  rintro e w1 ⟨rfl, rfl⟩
  go_wp2_with fail
  go_end0
  exact ⟨rfl, rfl⟩
set_option maxHeartbeats 4000000 in
set_option maxRecDepth 100000 in
theorem stabH_any (g n cp : Nat) (d : Array Sg) (w : World) (hn : n < 20) (h : RowS w g n cp d) :
    Calls Tryz.prog 72 #[.slice (some ⟨g, 0, none⟩) n cp, .int .i64 n, .func (.func 39) #[] #[]] w fun e w' => e = .returned (.tuple #[]) ∧ RowS w' g n cp (Go.Sort.insertionSort cmpHL d 0 n) ∧ OthersKept w w' (fun k => k = g) := by
  have C := Lib.hid fun W (hW : RowS W g n cp d) => insH_any g n cp 0 n d W (by omega) (Nat.zero_le _) (Nat.le_refl _) hW
  have H := Lib.hid h
  clear h
  generalize Go.Sort.insertionSort cmpHL d 0 n = r at *
  have q1 : ¬ (20 : Int) ≤ (n : Int) := by omega
  have q2 : ¬ (20 : Int) < (n : Int) := by omega
  go_enter Tryz.func72, Tryz.ntmps72
  go_wp2_with fail
  go_loopw [7, 8] (fun s7 s8 wr => s7 = .int .i64 0 ∧ s8 = .int .i64 20 ∧ wr = w) (fun _ _ _ => 0)
  case atStart => exact ⟨rfl, rfl, rfl⟩
  case round =>
    obtain ⟨rfl, rfl, rfl⟩ := hrel
    go_wp2_with fail
    refine (C.out _ H.out).mono ?_
    rintro e w1 ⟨rfl, h1, h2⟩
    have H1 := Lib.hid h1
    have K1 := Lib.hid h2
    clear h1 h2 C H
    go_wp2_with fail
    go_loopw [6] (fun s6 wr9 => s6 = .int .i64 20 ∧ wr9 = w1) (fun _ _ => 0)
    case atStart => exact ⟨rfl, rfl⟩
    case round =>
      obtain ⟨rfl, rfl⟩ := hrel
      go_wp2_with fail
      go_end0
      exact ⟨rfl, H1.out, K1.out⟩
set_option maxHeartbeats 4000000 in
set_option maxRecDepth 100000 in
theorem sortH_any (g n cp : Nat) (d : Array Sg) (w : World) (hn : n < 20) (h : RowS w g n cp d) :
    Calls Tryz.prog 38 #[.slice (some ⟨g, 0, none⟩) n cp, .func (.func 39) #[] #[]] w fun e w' => e = .returned (.tuple #[]) ∧ RowS w' g n cp (Go.Sort.insertionSort cmpHL d 0 n) ∧ OthersKept w w' (fun k => k = g) := by
  have C := Lib.hid fun W (hW : RowS W g n cp d) => stabH_any g n cp d W hn hW
  have H := Lib.hid h
  clear h
  generalize Go.Sort.insertionSort cmpHL d 0 n = r at *
  go_enter Tryz.func38, Tryz.ntmps38
  go_wp2_with fail
  refine (C.out _ H.out).mono ?_
  rintro e w1 ⟨rfl, h1, h2⟩
  have H1 := Lib.hid h1
  have K1 := Lib.hid h2
  clear h1 h2 C H
  go_wp2_with fail
  go_end0
  exact ⟨rfl, H1.out, K1.out⟩
set_option maxHeartbeats 4000000 in
set_option maxRecDepth 100000 in
theorem sortnilH_any (w : World) : Calls Tryz.prog 38 #[.slice none 0 0, .func (.func 39) #[] #[]] w fun e w' => e = .returned (.tuple #[]) ∧ w = w' := by
  have C1 : Hid (∀ W, Calls Tryz.prog 89 #[.slice none 0 0, .int .i64 0, .int .i64 0, .func (.func 39) #[] #[]] W fun e w' => e = .returned (.tuple #[]) ∧ W = w') := by
    show ∀ _, _
    intro W
    go_enter Tryz.func89, Tryz.ntmps89
    go_wp2_with fail
    go_loopw [8] (fun s8 wr => s8 = .int .i64 1 ∧ wr = W) (fun _ _ => 0)
    case atStart => exact ⟨rfl, rfl⟩
    case round =>
      obtain ⟨rfl, rfl⟩ := hrel
      go_wp2_with fail
      go_end0
      exact ⟨rfl, rfl⟩
  have C2 : Hid (∀ W, Calls Tryz.prog 72 #[.slice none 0 0, .int .i64 0, .func (.func 39) #[] #[]] W fun e w' => e = .returned (.tuple #[]) ∧ W = w') := by
    show ∀ _, _
    intro W
    go_enter Tryz.func72, Tryz.ntmps72
    go_wp2_with fail
    go_loopw [7, 8] (fun s7 s8 wr => s7 = .int .i64 0 ∧ s8 = .int .i64 20 ∧ wr = W) (fun _ _ _ => 0)
    case atStart => exact ⟨rfl, rfl, rfl⟩
    case round =>
      obtain ⟨rfl, rfl, rfl⟩ := hrel
      go_wp2_with fail
      refine (C1.out _).mono ?_
      rintro e w1 ⟨rfl, rfl⟩
      go_wp2_with fail
      go_loopw [6] (fun s6 wr9 => s6 = .int .i64 20 ∧ wr9 = wr) (fun _ _ => 0)
      case atStart => exact ⟨rfl, rfl⟩
      case round =>
        obtain ⟨rfl, rfl⟩ := hrel
        go_wp2_with fail
        go_end0
        exact ⟨rfl, rfl⟩
  go_enter Tryz.func38, Tryz.ntmps38
  go_wp2_with fail
  refine (C2.out _).mono ?_
  rintro e w1 ⟨rfl, rfl⟩
  go_wp2_with fail
  go_end0
  exact ⟨rfl, rfl⟩
end Go.Proofs.YtienlhnbmobinaaGreat
end

section
/- append: whose block it is -/
namespace Go.Proofs.YtienlhnbmobinaaGreat
open Go.RowKit
set_option linter.unusedVariables false
set_option linter.unusedSimpArgs false
theorem run_append_two {P : Program} (w : World) (base : Nat) (t ty e : TypeId) (i : TypeInfo) (z : Value) (size bytes : Nat) (ht : P.underlying t = some (.slice e)) (hi : P.info? e = some i) (hz : i.zero = some z)
    (hsize : i.size = size) (hby : i.bytes = bytes) (hzs : z.cells.size = size) (hsz : 0 < size)
    (v : Value) (n : Nat) (xs : List Value) (hown : w.ownsRow base e size v n xs)
    (a : Addr) (m c : Nat) (news : List Value) (hl : news.length = m * size) (hnews : ∀ j u, news[j]? = some u → w.cell? (a.add j) = some u) (h1 : ∀ u ∈ news, u.oneCell' = true)
    (h63 : n + m ≤ maxLen) (hbytes : (n + m) * bytes ≤ 140737488355328) (hbase : base ≤ w.heap.size) :
    ∃ v' w', (Builtin.append_ #[t, t] ty #[v, .slice (some a) m c]).run P w = .ok v' w' ∧ w'.ownsRow base e size v' (n + m) (xs ++ news) ∧ w.grownBy w' v.ownBlock ∧ (v'.ownBlock = v.ownBlock ∨ v'.ownBlock = some w.heap.size) := by
  obtain ⟨v', w', hr, h2, h3, h4⟩ := run_append_own (P := P) w base t ty e i z size bytes ht hi hz hsize hby hzs hsz v n xs hown a m c news hl hnews h1 h63 hbytes hbase
  refine ⟨v', w', hr, h2, h3, ?_⟩
  subst hsize
  subst hby
  have hsmall : n + m ≤ 9223372036854775807 := by simp only [maxLen] at h63; omega
  rcases hown.2 with ⟨rfl, rfl⟩ | ⟨g, cap, cur, rfl, hbg, hg, hnc, hcm, hcs, htake⟩
  · by_cases hm : m = 0
    · rw [h4.2 ⟨rfl, hm⟩]
      exact .inl rfl
    · have hr2 := run_append_nil (P := P) w t ty e i z ht hi hz a m c news hl hnews (by omega) (by omega) (by have hb := hbytes; simp only [Nat.zero_add] at hb; omega)
      rw [hr] at hr2
      injection hr2 with e1 e2
      rw [e1]
      exact .inr rfl
  · by_cases hroom : n + m ≤ cap
    · have hfit : n * i.size + news.length ≤ cur.size := by rw [hl, hcs, ← Nat.add_mul]; exact Nat.mul_le_mul_right _ hroom
      have hr2 := run_append_room (P := P) w t ty e i ht hi g n cap cur hg a m c news hl hnews h1 hroom hfit
      rw [hr] at hr2
      injection hr2 with e1 e2
      rw [e1]
      exact .inl rfl
    · have holds : ∀ j u, xs[j]? = some u → w.cell? ((⟨g, 0, none⟩ : Addr).add j) = some u := hown.cells (g := g) rfl
      have hr2 := run_append_grow (P := P) w t ty e i z ht hi hz ⟨g, 0, none⟩ n cap xs hown.1 holds a m c news hl hnews (by omega) (by omega) (growslice_fits (by omega) hbytes)
      rw [hr] at hr2
      injection hr2 with e1 e2
      rw [e1]
      exact .inr rfl
/-- append of one more: whose block is it then? -/
theorem wpList_append_two {P : Program} {w : World} {ops : Array Oper} {rest : List Oper} {o : Oper} {a : Act} {Q : Exit → Act → World → Prop} (hgd : o.guard = none) (s x : Operand) (t : TypeId)
    (ho : o.op = .call { callee := .builtin .append, args := #[s, x], argTypes := #[t, t] })
    (base : Nat) (e : TypeId) (i : TypeInfo) (z : Value) (size bytes : Nat) (ht : P.underlying t = some (.slice e)) (hi : P.info? e = some i) (hz : i.zero = some z)
    (hsize : i.size = size) (hby : i.bytes = bytes) (hzs : z.cells.size = size) (hsz : 0 < size)
    (v : Value) (n : Nat) (xs : List Value) (hs : a.eval s = v) (hown : w.ownsRow base e size v n xs)
    (ad : Addr) (m c : Nat) (news : List Value) (hx : a.eval x = .slice (some ad) m c) (hl : news.length = m * size) (hnews : ∀ j u, news[j]? = some u → w.cell? (ad.add j) = some u) (h1 : ∀ u ∈ news, u.oneCell' = true)
    (h63 : n + m ≤ maxLen) (hbytes : (n + m) * bytes ≤ 140737488355328) (hbase : base ≤ w.heap.size)
    (h : ∀ v' w', w'.ownsRow base e size v' (n + m) (xs ++ news) → w.grownBy w' v.ownBlock → (v'.ownBlock = v.ownBlock ∨ v'.ownBlock = some w.heap.size) → wpList P ops Q rest (a.put o.dst v') w') : wpList P ops Q (o :: rest) a w :=
  wpList_plain hgd fun K hK => by
    obtain ⟨v', w', hr, h2, h3, h4⟩ := run_append_two (P := P) w base t o.type e i z size bytes ht hi hz hsize hby hzs hsz v n xs hown ad m c news hl hnews h1 h63 hbytes hbase
    unfold Oper.wp execOp
    simp only [ho, resolve, invoke, builtin, Sem.run_bind, Sem.run_pure, Result.andThen_ok, List.map_toArray, List.map_cons, List.map_nil, hs, hx, hr]
    exact hK _ _ (h v' w' h2 h3 h4)
end Go.Proofs.YtienlhnbmobinaaGreat
end
