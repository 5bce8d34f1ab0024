/- slices.Clone, Insert at texts; slices.Delete, Replace at texts -/
import Derived.Test.YtienlhnbmobinaaRows
import Derived.Test.YtienlhnbmobinaaBase
import Derived.Test.YtienlhnbmobinaaTextsP
import Derived.Test.YtienlhnbmobinaaPlains
import Derived.Shelf.Spec.SlicesInsertGrow
import Derived.Deep.RegionLaw
import Derived.WalkKit
import Derived.WalkLawsBesides
import Derived.WalkSpells
import Derived.LoopTactic
import Derived.WalkMore
import Derived.LoopN
import Derived.Laws.BitsAllLaws
import Derived.Laws.IdiomStrings
import Derived.BigQuiet
import Derived.Deep.QuietTactic
import Derived.Deep.DeepCutAuto
import Derived.Deep.RegionHeld3
import Derived.Deep.DrawnRows
import Derived.Lib.Hide
import Derived.Outline
import Derived.Deep.DeepMust
import Derived.Handy
import Derived.Test.YtienlhnbmobinaaShelf
namespace Go.Proofs.Ytienlhnbmobinaa
open Go.RowKit
set_option linter.unusedVariables false
set_option linter.unusedSimpArgs false

open Go.Lib
theorem strs_take (ts : List (List UInt8)) (k : Nat) : strs (ts.take k) = (strs ts).take k := by simp [strs]
theorem strs_drop (ts : List (List UInt8)) (k : Nat) : strs (ts.drop k) = (strs ts).drop k := by simp [strs]
theorem strs_oneCell (ts : List (List UInt8)) : ∀ u ∈ strs ts, u.oneCell' = true := by
  intro u hu
  obtain ⟨t, _, rfl⟩ := List.mem_map.1 hu
  rfl
theorem Try.sizeStr : (Try.prog.info? 9).map (·.size) = some 1 := by kernel_rfl
theorem zero_one (z : Value) (k : Nat) : Builtin.zeroCells #[z] k = (List.replicate k z).toArray := by
  unfold Builtin.zeroCells
  apply Array.ext
  · simp
  · intro i h1 h2
    simp [Nat.mod_one]
theorem Try.infoStrM : (Try.prog.info? 9).map (fun i => (i.zero, i.size, i.bytes)) = some (some (.string ⟨#[]⟩), 1, 16) := by kernel_rfl
/-- What a call leaves that gives a row of texts of its own. -/
def OwnPost (w : World) (ts : List (List UInt8)) (e : Ending) (w' : World) : Prop := ∃ v, e = .returned v ∧ w'.ownsRow w.heap.size 9 1 v ts.length (strs ts) ∧ Below w.heap.size w w'
set_option maxHeartbeats 2000000 in
set_option maxRecDepth 100000 in
theorem cloneTexts_any (sv : Value) (ts : List (List UInt8)) (w : World) (ht : TextsAt w sv ts) (hn : ts.length ≤ 1000000) :
    Calls Try.prog 84 #[sv] w (OwnPost w ts) := by
  have HR := Lib.hid fun w' (hb : Below w.heap.size w w') => (ht.below hb).reads
  obtain ⟨A, cp, rfl, h2, h3, h4, h5⟩ := ht
  unfold maxLen at h3
  have H4 := Lib.hid h4
  obtain ⟨i0, hi, hz0, hz1, hz2⟩ := info_parts Try.infoStrM
  have HI := Lib.hid hi
  have HI0 := Lib.hid hz0
  have HI1 := Lib.hid hz1
  have HI2 := Lib.hid hz2
  clear hi hz0 hz1 hz2 h4 h5
  have eq := fun W => Lib.run_eql_slice_nil (P := Try.prog) W 24 9 A ts.length cp 0 0 Try.underlying24
  cases A with
  | none =>
    have HT := Lib.hid (H4.out rfl).1
    go_enter Try.func84, Try.ntmps84
    go_wp2_with fail
    go_ret
    exact ⟨_, rfl, by rw [HT.out]; exact World.ownsRow_nil _ _ _ _, Below.refl _ _⟩
  | some a =>
    go_enter Try.func84, Try.ntmps84
    go_wp2_with (at_builtin; refine wpList_append_any _ rfl _ _ 24 rfl w.heap.size 9 i0 (.string ⟨#[]⟩) 1 16 Try.underlying24 HI.out HI0.out HI1.out HI2.out rfl (by decide) (.slice (some ⟨w.heap.size, 0, none⟩) 0 0) 0 [] (by rfl) (World.ownsRow_made w #[] 0 (Nat.le_refl _) (by unfold maxLen; omega) rfl) (.slice (some a) ts.length cp) ts.length (strs ts) (by rfl) (HR.out _ (alloc_below _ _)) (strs_oneCell _) (by unfold maxLen; omega) (by omega) (by simp) ?_; intro v' w5 hown5 hgrow5)
    have HO : Hid (w5.ownsRow w.heap.size 9 1 v' ts.length (strs ts)) := by show World.ownsRow _ _ _ _ _ _ _; simpa using hown5
    have HB := Lib.hid (((Below.refl w.heap.size w).alloc (Nat.le_refl _) (.cells #[] 9)).grown hgrow5 (by simp) (fun k hk => by simp [Value.ownBlock] at hk; omega))
    clear hown5 hgrow5
    go_wp2_with fail
    go_ret
    exact ⟨_, rfl, HO.out, HB.out⟩
set_option maxHeartbeats 2000000 in
set_option maxRecDepth 100000 in
/-- Insert of one text into a row of one's own. -/
theorem insText_any (v : Value) (ts : List (List UInt8)) (x : List UInt8) (base i vb : Nat) (w : World) (ho : w.ownsRow base 9 1 v ts.length (strs ts)) (hx : w.heap[vb]? = some (.cells #[.string ⟨x.toArray⟩] 9 (0, 0))) (hvb : ∀ k, v.ownBlock = some k → k ≠ vb)
    (hi : i ≤ ts.length) (hn : ts.length ≤ 1000000) (hb : base ≤ w.heap.size) :
    Calls Try.prog 138 #[v, .int .i64 i, .slice (some ⟨vb, 0, none⟩) 1 1] w fun e w' => ∃ v', e = .returned v' ∧ w'.ownsRow base 9 1 v' (ts.length + 1) (strs (ts.take i ++ x :: ts.drop i)) ∧ w.grownBy w' v.ownBlock := by
  obtain ⟨i0, hif, hz0, hz1, hz2⟩ := info_parts Try.infoStrM
  have HI := Lib.hid hif
  have HI0 := Lib.hid hz0
  have HI1 := Lib.hid hz1
  have HI2 := Lib.hid hz2
  clear hif hz0 hz1 hz2
  have HX := Lib.hid hx
  have HO := Lib.hid ho
  have hxs : Hid (strs (ts.take i ++ x :: ts.drop i) = (strs ts).take i ++ .string ⟨x.toArray⟩ :: (strs ts).drop i) := by show _ = _; simp [strs]
  rw [hxs.out]
  have hcx : ∀ j u, [Value.string ⟨x.toArray⟩][j]? = some u → w.cell? ((⟨vb, 0, none⟩ : Addr).add j) = some u := by
    intro j u hu
    cases j with
    | zero =>
      have : Value.string ⟨x.toArray⟩ = u := by simpa using hu
      subst this
      show w.cell? ⟨vb, 0, none⟩ = _
      rw [blk_cell hx]; rfl
    | succ j => simp at hu
  have HCX := Lib.hid hcx
  clear hcx
  rcases Nat.lt_or_ge i ts.length with hlt | hge
  · obtain ⟨g, cp, hv, hbg, hcp, hcm, hcells⟩ := own_open ho (by omega)
    subst hv
    obtain ⟨cur, hg, _, _, _, hcl, hct, hsl⟩ := own_cur ho
    have hgv : g ≠ vb := hvb g rfl
    unfold maxLen at hcm
    obtain ⟨n, hn'⟩ : ∃ n, n = ts.length := ⟨_, rfl⟩
    have hxl : (strs ts).length = n := by simp [strs, hn']
    rw [← hn'] at hcp ho hlt hct hsl hn HO
    rw [← hn']
    clear hn'
    have hone := strs_oneCell ts
    generalize strs ts = xs at *
    have hdl : (xs.drop i).length = n - i := by rw [List.length_drop, hxl]
    have hz1 : ¬ ((1 : Int) = 0) := by omega
    have hz2 : ¬ ((i : Int) = (n : Int)) := by omega
    have hw1 : IntKind.i64.wrap ((i : Int) + 1) = (i : Int) + 1 := by rw [IntKind.wrap_i64]; omega
    have hb1 : (0 : Int) ≤ (i : Int) + 1 := by omega
    have htn : ((i : Int) + 1).toNat = i + 1 := by omega
    have hb3 : (i : Int) ≤ (n : Int) + 1 := by omega
    have hb4 : ¬ (cp = i) := by omega
    have hin : i ≤ n := by omega
    have hgl : g < w.heap.size := blk_lt hg
    have hvl : vb < w.heap.size := blk_lt HX.out
    have hcg : ∀ j, j < cp → (w.cell? ⟨g, j, none⟩).isSome = true := fun j hj => by
      rw [blk_cell hg, List.getElem?_toArray, List.getElem?_eq_getElem (by omega)]; rfl
    have hfg : ∀ j, w.frozen? ⟨g, j, none⟩ = false := fun j => blk_frozen hg j
    by_cases hroom : n + 1 ≤ cp
    · have hb2 : ¬ (cp = i + 1) := by omega
      have hov : ∀ lb cb, (callFunc 184 #[.slice (some ⟨vb, 0, none⟩) 1 1, .slice (some ⟨g, i + 1, none⟩) lb cb]).run Try.prog w = .ok (.value (.bool false)) w := fun lb cb => by
        rw [run_callFunc_extern Try.func184 (by kernel_rfl) (by kernel_rfl) (by kernel_rfl) (e := Extern.SlicesOverlaps.overlaps #[24, 24] #[4]) (by kernel_rfl),
          Lib.run_overlaps_apart w 24 4 9 Try.underlying24 1 (fun w => by kernel_rfl) ⟨vb, 0, none⟩ ⟨g, i + 1, none⟩ 1 1 lb cb (by simpa using Ne.symm hgv) 9 9 1 cp (by unfold World.shape?; simp only [HX.out]; rfl) (by unfold World.shape?; simp only [hg]; simp [hcl]) (by omega) (blk_frozen HX.out 0) (blk_frozen HX.out 1)]
        rfl
      have hcp1 : ∀ ty dc sc, (Builtin.copy_ #[24, 24] ty #[.slice (some ⟨g, i + 1, none⟩) (n - i) dc, .slice (some ⟨g, i, none⟩) (n + 1 - i) sc]).run Try.prog w.drew = .ok (goInt (xs.drop i).length) (w.drew.setCells g (i + 1) (xs.drop i)) := fun ty dc sc =>
        run_copy_cells w.drew _ _ ty 9 g (i + 1) (n - i) dc ⟨g, i, none⟩ (n + 1 - i) sc (xs.drop i) Try.underlying24 Try.sizeStr (by rw [hdl]; simp only [Nat.min_def]; split <;> omega)
          (fun j v hj => by rw [Addr.add_lit]; exact hcells (i + j) v (by rwa [List.getElem?_drop] at hj))
          (fun j hj => by exact hcg _ (by omega)) (fun j hj => by exact hfg _) (fun v hv => hone v (List.mem_of_mem_drop hv))
      obtain ⟨W1, hW1⟩ : ∃ W1, W1 = w.drew.setCells g (i + 1) (xs.drop i) := ⟨_, rfl⟩
      have hg1 : W1.heap[g]? = some (.cells (spl cur (i + 1) (xs.drop i)).toArray 9 (0, 0)) := by rw [hW1]; exact heap_setCells g _ _ _ _ _ hg (by omega)
      have hgr1 : w.grownBy W1 (some g) := by rw [hW1]; exact grown_drew (grown_setCells g _ _ _)
      have hl1 : (spl cur (i + 1) (xs.drop i)).length = cp := by rw [spl_length _ _ _ (by omega)]; exact hcl
      have hx1 : W1.heap[vb]? = some (.cells #[.string ⟨x.toArray⟩] 9 (0, 0)) := (hgr1.block vb hvl (by intro h; injection h with h; exact hgv h.symm)).trans HX.out
      have hcp2 : ∀ ty dc, (Builtin.copy_ #[24, 24] ty #[.slice (some ⟨g, i, none⟩) (n + 1 - i) dc, .slice (some ⟨vb, 0, none⟩) 1 1]).run Try.prog W1 = .ok (goInt 1) (W1.setCells g i [.string ⟨x.toArray⟩]) := fun ty dc =>
        run_copy_cells W1 _ _ ty 9 g i (n + 1 - i) dc ⟨vb, 0, none⟩ 1 1 [.string ⟨x.toArray⟩] Try.underlying24 Try.sizeStr (by simp only [Nat.min_def, List.length_singleton]; split <;> omega)
          (fun j u hu => by
            cases j with
            | zero => have : Value.string ⟨x.toArray⟩ = u := by simpa using hu
                      subst this
                      show W1.cell? ⟨vb, 0, none⟩ = _
                      rw [blk_cell hx1]; rfl
            | succ j => simp at hu)
          (fun j hj => by rw [blk_cell hg1, List.getElem?_toArray, List.getElem?_eq_getElem (by simp at hj; omega)]; rfl) (fun j hj => blk_frozen hg1 _) (one_str _)
      obtain ⟨W2, hW2⟩ : ∃ W2, W2 = W1.setCells g i [.string ⟨x.toArray⟩] := ⟨_, rfl⟩
      have hg2 : W2.heap[g]? = some (.cells (spl (spl cur (i + 1) (xs.drop i)) i [.string ⟨x.toArray⟩]).toArray 9 (0, 0)) := by rw [hW2]; exact heap_setCells g _ _ _ _ _ hg1 (by simp; omega)
      have hgr2 : W1.grownBy W2 (some g) := by rw [hW2]; exact grown_setCells g _ _ _
      have HG := Lib.hid (show w.grownBy W2 (some g) from grown_trans hgr1 hgr2)
      have HO2 := Lib.hid (own_of_cur (n := n + 1) (cp := cp) hg2 hbg hroom (by unfold maxLen; omega) (by rw [spl_length _ _ _ (by simp; omega)]; exact hl1) (shift_one cur xs _ n i hct (by omega) hlt))
      rw [← hW1] at hcp1
      rw [← hW2] at hcp2
      have hrm : ¬ ((cp : Int) < (n : Int) + 1) := by omega
      clear hW1 hW2 hg1 hg2 hgr1 hgr2 hx1 hl1 hcg hfg hcells ho HO hx hvb hg hct hsl hcl hone hxl hxs
      go_enter Try.func138, Try.ntmps138
      go_wp2_with (simp only [hov])
      go_region_law (refine step_copy_runI rfl _ _ 24 24 rfl _ _ (by simp [Act.eval, Act.put]) (by simp [Act.eval, Act.put]) (hcp1 _ _ _) ?_)
      go_wp2_with (at_builtin; refine wpList_copy_runI _ rfl _ _ 24 24 rfl _ _ rfl rfl (hcp2 _ _) ?_)
      go_ret
      exact ⟨_, rfl, HO2.out, HG.out⟩
    · have hce : cp = n := by omega
      subst hce
      have hrm : (cp : Int) < (cp : Int) + 1 := by omega
      have hkk : (cp : Int) + 1 - (i : Int) = ((cp + 1 - i : Nat) : Int) := by omega
      have hik : i + (cp + 1 - i) = cp + 1 := by omega
      have hN0 : w.heap.size ≠ g := by omega
      have hold : (Builtin.firstCells i0.size i (.slice (some ⟨g, 0, none⟩) i cp)).run Try.prog w.drew = .ok (xs.take i).toArray w.drew := by
        rw [HI1.out]
        exact run_firstCells_some w.drew 1 i ⟨g, 0, none⟩ i cp (xs.take i) (by rw [List.length_take]; omega) (fun j v hj => by
          rw [Addr.add_lit, Nat.zero_add]
          rw [List.getElem?_take] at hj
          split at hj
          · exact hcells j v hj
          · cases hj)
      have hrz : ∀ ty, (Builtin.append_ #[24, 3] ty #[.slice (some ⟨g, 0, none⟩) i cp, .int .i64 ((cp : Int) + 1 - (i : Int))]).run Try.prog w =
          .ok (.slice (some ⟨w.heap.size, 0, none⟩) (cp + 1) (grownCap w (cp + 1) cp 9)) (w.drew.alloc (.cells ((xs.take i).toArray ++ Builtin.zeroCells (Value.string ⟨#[]⟩).cells (cp + 1 - i) ++ Builtin.zeroCells (Value.string ⟨#[]⟩).cells (grownCap w (cp + 1) cp 9 - (cp + 1))) 9)) := fun ty => by
        have h := Lib.run_append_grow_zeros w 24 3 ty 9 i0 _ .i64 .i64 Try.underlying24 Try.underlying3 HI.out HI0.out (some ⟨g, 0, none⟩) i cp (xs.take i) hold (cp + 1 - i) (by omega) (by rw [HI1.out]; omega) (by omega) (by omega) (by rw [HI2.out]; omega) (by rw [HI2.out, hik]; exact growslice_fits (by omega) (by omega))
        rw [hik] at h
        rw [hkk]
        exact h
      obtain ⟨G, hG⟩ : ∃ G, G = grownCap w (cp + 1) cp 9 := ⟨_, rfl⟩
      have hGn : cp + 1 ≤ G := by rw [hG]; exact grownCap_ge w _ _ _
      have hG63 : G ≤ maxLen := by rw [hG]; exact grownCap_le_maxLen w (cp + 1) cp 9 (by unfold maxLen; omega)
      rw [← hG] at hrz
      obtain ⟨ROW, hROW⟩ : ∃ ROW : List Value, ROW = xs.take i ++ List.replicate (cp + 1 - i) (Value.string ⟨#[]⟩) ++ List.replicate (G - (cp + 1)) (Value.string ⟨#[]⟩) := ⟨_, rfl⟩
      have hRA : (xs.take i).toArray ++ Builtin.zeroCells (Value.string ⟨#[]⟩).cells (cp + 1 - i) ++ Builtin.zeroCells (Value.string ⟨#[]⟩).cells (G - (cp + 1)) = ROW.toArray := by
        rw [hROW]
        rw [show (Value.string ⟨#[]⟩).cells = #[Value.string ⟨#[]⟩] from rfl, zero_one, zero_one]
        simp
      rw [hRA] at hrz
      have hRl : ROW.length = G := by rw [hROW]; simp; omega
      obtain ⟨W1, hW1⟩ : ∃ W1, W1 = w.drew.alloc (.cells ROW.toArray 9) := ⟨_, rfl⟩
      rw [← hW1] at hrz
      have hg1 : W1.heap[w.heap.size]? = some (.cells ROW.toArray 9 (0, 0)) := by rw [hW1]; exact heap_alloc_new w.drew _
      have hb1' : Below w.heap.size w W1 := by rw [hW1]; exact (Below.refl _ _).drew.alloc (Nat.le_refl _) _
      have hx1 : W1.heap[vb]? = some (.cells #[.string ⟨x.toArray⟩] 9 (0, 0)) := (hb1'.block vb hvl).trans HX.out
      have hgg1 : W1.heap[g]? = some (.cells cur.toArray 9 (0, 0)) := (hb1'.block g hgl).trans hg
      have hcp2 : ∀ ty dc, (Builtin.copy_ #[24, 24] ty #[.slice (some ⟨w.heap.size, i, none⟩) (cp + 1 - i) dc, .slice (some ⟨vb, 0, none⟩) 1 1]).run Try.prog W1 = .ok (goInt 1) (W1.setCells w.heap.size i [.string ⟨x.toArray⟩]) := fun ty dc =>
        run_copy_cells W1 _ _ ty 9 w.heap.size i (cp + 1 - i) dc ⟨vb, 0, none⟩ 1 1 [.string ⟨x.toArray⟩] Try.underlying24 Try.sizeStr (by simp only [Nat.min_def, List.length_singleton]; split <;> omega)
          (fun j u hu => by
            cases j with
            | zero => have : Value.string ⟨x.toArray⟩ = u := by simpa using hu
                      subst this
                      show W1.cell? ⟨vb, 0, none⟩ = _
                      rw [blk_cell hx1]; rfl
            | succ j => simp at hu)
          (fun j hj => by rw [blk_cell hg1, List.getElem?_toArray, List.getElem?_eq_getElem (by simp at hj; omega)]; rfl) (fun j hj => blk_frozen hg1 _) (one_str _)
      obtain ⟨W2, hW2⟩ : ∃ W2, W2 = W1.setCells w.heap.size i [.string ⟨x.toArray⟩] := ⟨_, rfl⟩
      have hg2 : W2.heap[w.heap.size]? = some (.cells (spl ROW i [.string ⟨x.toArray⟩]).toArray 9 (0, 0)) := by rw [hW2]; exact heap_setCells _ _ _ _ _ _ hg1 (by simp; omega)
      have hgr2 : W1.grownBy W2 (some w.heap.size) := by rw [hW2]; exact grown_setCells _ _ _ _
      have hl2 : (spl ROW i [Value.string ⟨x.toArray⟩]).length = G := by rw [spl_length _ _ _ (by simp; omega)]; exact hRl
      have hgg2 : W2.heap[g]? = some (.cells cur.toArray 9 (0, 0)) := (hgr2.block g (by have := hb1'.size; omega) (by intro h; injection h with h; exact hN0 h.symm)).trans hgg1
      rw [← hW2] at hcp2
      have hcp1 : ∀ ty dc sc, (Builtin.copy_ #[24, 24] ty #[.slice (some ⟨w.heap.size, i + 1, none⟩) (cp - i) dc, .slice (some ⟨g, i, none⟩) (cp - i) sc]).run Try.prog W2.drew = .ok (goInt (xs.drop i).length) (W2.drew.setCells w.heap.size (i + 1) (xs.drop i)) := fun ty dc sc =>
        run_copy_cells W2.drew _ _ ty 9 w.heap.size (i + 1) (cp - i) dc ⟨g, i, none⟩ (cp - i) sc (xs.drop i) Try.underlying24 Try.sizeStr (by rw [hdl]; simp only [Nat.min_def]; split <;> omega)
          (fun j v hj => by
            rw [Addr.add_lit]
            show W2.cell? ⟨g, i + j, none⟩ = some v
            rw [blk_cell hgg2, ← blk_cell hg]
            exact hcells (i + j) v (by rwa [List.getElem?_drop] at hj))
          (fun j hj => by
            show (W2.cell? ⟨w.heap.size, i + 1 + j, none⟩).isSome = true
            rw [blk_cell hg2, List.getElem?_toArray, List.getElem?_eq_getElem (by omega)]; rfl) (fun j hj => blk_frozen hg2 _) (fun v hv => hone v (List.mem_of_mem_drop hv))
      obtain ⟨W3, hW3⟩ : ∃ W3, W3 = W2.drew.setCells w.heap.size (i + 1) (xs.drop i) := ⟨_, rfl⟩
      have hg3 : W3.heap[w.heap.size]? = some (.cells (spl (spl ROW i [.string ⟨x.toArray⟩]) (i + 1) (xs.drop i)).toArray 9 (0, 0)) := by rw [hW3]; exact heap_setCells _ _ _ _ _ _ hg2 (by omega)
      have hgr3 : W2.grownBy W3 (some w.heap.size) := by rw [hW3]; exact grown_drew (grown_setCells _ _ _ _)
      rw [← hW3] at hcp1
      have hbel : Below w.heap.size w W3 := ((hb1'.grown hgr2 hb1'.size (fun k hk => by injection hk with hk; omega)).grown hgr3 (Nat.le_trans hb1'.size hgr2.size) (fun k hk => by injection hk with hk; omega))
      have HG := Lib.hid (show w.grownBy W3 (Value.slice (some ⟨g, 0, none⟩) cp cp).ownBlock from grown_below _ hbel)
      have hfin : (spl (spl ROW i [.string ⟨x.toArray⟩]) (i + 1) (xs.drop i)).take (cp + 1) = xs.take i ++ .string ⟨x.toArray⟩ :: xs.drop i := by rw [hROW]; exact fill_one xs _ _ _ cp i hxl hlt (by simp)
      have HO2 := Lib.hid (own_of_cur (n := cp + 1) (cp := G) hg3 hb hGn hG63 (by rw [spl_length _ _ _ (by omega)]; exact hl2) hfin)
      have hGi : ¬ (G = i) := by omega
      have hGim : ¬ (G = i + 1) := by omega
      have hG64 : G ≤ 9223372036854775807 := by unfold maxLen at hG63; omega
      clear hW1 hW2 hW3 hg1 hg2 hg3 hgr2 hgr3 hx1 hgg1 hgg2 hl2 hcg hfg hcells ho HO hx hvb hg hct hsl hcl hone hxl hxs hkk hik hold hROW hRA hRl hfin hG hG63 hb1' hbel hroom
      go_enter Try.func138, Try.ntmps138
      go_wp2_with (first
        | (at_builtin; refine Lib.wpList_append_run _ rfl _ _ _ _ rfl _ _ rfl rfl _ _ (hrz _) ?_)
        | (at_builtin; refine wpList_copy_runI _ rfl _ _ 24 24 rfl _ _ rfl rfl (hcp2 _ _) ?_))
      go_region_law (refine step_copy_runI rfl _ _ 24 24 rfl _ _ (by simp [Act.eval, Act.put]) (by simp [Act.eval, Act.put]) (hcp1 _ _ _) ?_)
      go_wp2_with fail
      go_ret
      exact ⟨_, rfl, HO2.out, HG.out⟩
  · obtain rfl : i = ts.length := by omega
    clear hge hi
    have hform := own_form ho
    obtain ⟨bs, cp, rfl, hcp, hcm, _⟩ := hform
    have HS : Hid ((strs ts).take ts.length ++ Value.string ⟨x.toArray⟩ :: (strs ts).drop ts.length = strs ts ++ [.string ⟨x.toArray⟩]) := by show _ = _; rw [List.take_of_length_le (by simp [strs]), List.drop_eq_nil_of_le (by simp [strs])]
    rw [HS.out]
    clear ho hx hvb
    unfold maxLen at hcm
    go_enter Try.func138, Try.ntmps138
    go_wp2_with (at_builtin; refine wpList_append_any _ rfl _ _ 24 rfl base 9 i0 (.string ⟨#[]⟩) 1 16 Try.underlying24 HI.out HI0.out HI1.out HI2.out rfl (by decide) _ _ _ (by rfl) HO.out (.slice (some ⟨vb, 0, none⟩) 1 1) 1 [.string ⟨x.toArray⟩] (by rfl) (.inr ⟨_, _, rfl, rfl, HCX.out⟩) (one_str _) (by unfold maxLen; omega) (by omega) hb ?_; intro v' w5 hown5 hgrow5)
    all_goals go_ret
    all_goals exact ⟨_, rfl, hown5, by cases bs <;> exact hgrow5⟩

end Go.Proofs.Ytienlhnbmobinaa

namespace Go.Proofs.Ytienlhnbmobinaa
open Go.RowKit
set_option linter.unusedVariables false
set_option linter.unusedSimpArgs false

open Go.Lib Go.Sort
set_option maxHeartbeats 2000000 in
set_option maxRecDepth 100000 in
/-- Delete of one text out of a row of one's own. -/
theorem delText_any (v : Value) (ts : List (List UInt8)) (base i : Nat) (w : World) (ho : w.ownsRow base 9 1 v ts.length (strs ts)) (hi : i < ts.length) (hn : ts.length ≤ 1000000) (hb : base ≤ w.heap.size) :
    Calls Try.prog 141 #[v, .int .i64 i, .int .i64 ((i : Int) + 1)] w fun e w' => ∃ v', e = .returned v' ∧ w'.ownsRow base 9 1 v' (ts.length - 1) (strs (ts.take i ++ ts.drop (i + 1))) ∧ w.grownBy w' v.ownBlock := by
  obtain ⟨g, cp, hv, hbg, hcp, hcm, hcells⟩ := own_open ho (by omega)
  subst hv
  obtain ⟨cur, hg, _, _, _, hcl, hct, hsl⟩ := own_cur ho
  have hS : Lib.strsOf (fun j => (⟨(ts.getD j []).toArray⟩ : ByteArray)) ts.length = ts := by
    unfold Lib.strsOf
    apply List.ext_getElem (by simp)
    intro k h1 h2
    simp at h1
    simp [h1]
  have h := Try.slices_Delete_string_cells g 0 ts.length cp i (i + 1) (fun j => ⟨(ts.getD j []).toArray⟩) w hcp (by unfold maxLen at hcm; omega) (by omega) (by omega)
    (fun j hj => by rw [Nat.zero_add]; exact hcells j _ (by rw [strs_get ts j hj, List.getD_eq_getElem?_getD, List.getElem?_eq_getElem hj]; rfl)) (fun j hj => blk_frozen hg _)
  rw [hS] at h
  refine (h.mono ?_)
  rintro e w' ⟨rfl, q, rfl⟩
  have hvs : ((ts.take i ++ ts.drop (i + 1) ++ List.replicate (i + 1 - i) []).map encStr) = strs (ts.take i ++ ts.drop (i + 1)) ++ [.string ⟨#[]⟩] := by
    rw [show i + 1 - i = 1 by omega, List.map_append]
    rfl
  rw [hvs]
  have hlen : (strs (ts.take i ++ ts.drop (i + 1))).length = ts.length - 1 := by simp [strs]; omega
  have hg2 : ((w.drewN q).setCells g 0 (strs (ts.take i ++ ts.drop (i + 1)) ++ [.string ⟨#[]⟩])).heap[g]? = some (.cells (spl cur 0 (strs (ts.take i ++ ts.drop (i + 1)) ++ [.string ⟨#[]⟩])).toArray 9 (0, 0)) := heap_setCells g _ _ _ _ _ hg (by rw [List.length_append, hlen]; simp; omega)
  refine ⟨_, rfl, ?_, ?_⟩
  · rw [show ts.length - (i + 1 - i) = ts.length - 1 by omega]
    refine own_of_cur hg2 hbg (by omega) hcm (by rw [spl_length _ _ _ (by rw [List.length_append, hlen]; simp; omega)]; exact hcl) ?_
    unfold spl
    rw [List.take_zero, List.nil_append, List.append_assoc, List.take_left' hlen]
  · have := grown_setCells g (strs (ts.take i ++ ts.drop (i + 1)) ++ [.string ⟨#[]⟩]) 0 (w.drewN q)
    exact ⟨this.os, this.tape, this.output, this.size, this.block⟩
theorem own_empty1 (w : World) : (w.alloc (.cells #[] 9)).drew.ownsRow w.heap.size 9 1 (.slice (some ⟨w.heap.size, 0, none⟩) 0 0) 0 [] := by
  have h := World.ownsRow_made (e := 9) (size := 1) w #[] 0 (Nat.le_refl _) (by unfold maxLen; omega) rfl
  exact own_below h ((Below.refl _ _).drew)

end Go.Proofs.Ytienlhnbmobinaa
