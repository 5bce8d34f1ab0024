/- Kept of our texts for this claim: TextsMove PgStore OpPlain OpWord -/
import Derived.Test.YtienlhnbmobinaaGreatRows
import Derived.Test.YtienlhnbmobinaaGreatAdAb
import Derived.Test.YtienlhnbmobinaaGreatAdAc
import Derived.Test.YtienlhnbmobinaaGreatAdAa
import Derived.Shelf.Spec.SlicesInsertGrow
import Derived.Deep.RegionLaw
import Derived.WalkKit
import Derived.WalkLawsBesides
import Derived.WalkSpells
import Derived.LoopTactic
import Derived.WalkMore
import Derived.LoopN
import Derived.Laws.BitsAllLaws
import Derived.Laws.IdiomStrings
import Derived.BigQuiet
import Derived.Deep.QuietTactic
import Derived.Deep.DeepCutAuto
import Derived.Deep.RegionHeld3
import Derived.Deep.DrawnRows
import Derived.Lib.Hide
import Derived.Outline
import Derived.Deep.DeepMust
import Derived.Handy
import Derived.Laws.Tables
import Derived.Test.YtienlhnbmobinaaGreatAdAd
section
/- slices.Clone, Insert at texts; slices.Delete, Replace at texts -/
namespace Go.Proofs.YtienlhnbmobinaaGreat
open Go.RowKit
set_option linter.unusedVariables false
set_option linter.unusedSimpArgs false
open Go.Lib
theorem strs_take (ts : List (List UInt8)) (k : Nat) : strs (ts.take k) = (strs ts).take k := by simp [strs]
theorem strs_oneCell (ts : List (List UInt8)) : ∀ u ∈ strs ts, u.oneCell' = true := by
  intro u hu
  obtain ⟨t, _, rfl⟩ := List.mem_map.1 hu
  rfl
theorem Tryz.sizeStr : (Tryz.prog.info? 9).map (·.size) = some 1 := by kernel_rfl
theorem zero_one (z : Value) (k : Nat) : Builtin.zeroCells #[z] k = (List.replicate k z).toArray := by
  unfold Builtin.zeroCells
  apply Array.ext
  · simp
  · intro i h1 h2
    simp [Nat.mod_one]
theorem Tryz.infoStrM : (Tryz.prog.info? 9).map (fun i => (i.zero, i.size, i.bytes)) = some (some (.string ⟨#[]⟩), 1, 16) := by kernel_rfl
/-- What a call leaves that gives a row of texts of its own. -/
def OwnPost (w : World) (ts : List (List UInt8)) (e : Ending) (w' : World) : Prop := ∃ v, e = .returned v ∧ w'.ownsRow w.heap.size 9 1 v ts.length (strs ts) ∧ Below w.heap.size w w'
set_option maxHeartbeats 2000000 in
set_option maxRecDepth 100000 in
theorem cloneTexts_any (sv : Value) (ts : List (List UInt8)) (w : World) (ht : TextsAt w sv ts) (hn : ts.length ≤ 1000000) :
    Calls Tryz.prog 35 #[sv] w (OwnPost w ts) := by
  have HR := Lib.hid fun w' (hb : Below w.heap.size w w') => (ht.below hb).reads
  obtain ⟨A, cp, rfl, h2, h3, h4, h5⟩ := ht
  unfold maxLen at h3
  have H4 := Lib.hid h4
  obtain ⟨i0, hi, hz0, hz1, hz2⟩ := info_parts Tryz.infoStrM
  have HI := Lib.hid hi
  have HI0 := Lib.hid hz0
  have HI1 := Lib.hid hz1
  have HI2 := Lib.hid hz2
  clear hi hz0 hz1 hz2 h4 h5
  have eq := fun W => Lib.run_eql_slice_nil (P := Tryz.prog) W 24 9 A ts.length cp 0 0 Tryz.underlying24
  cases A with
  | none =>
    have HT := Lib.hid (H4.out rfl).1
    go_enter Tryz.func35, Tryz.ntmps35
    go_wp2_with fail
    go_ret
    exact ⟨_, rfl, by rw [HT.out]; exact World.ownsRow_nil _ _ _ _, Below.refl _ _⟩
  | some a =>
    go_enter Tryz.func35, Tryz.ntmps35
    go_wp2_with (at_builtin; refine wpList_append_any _ rfl _ _ 24 rfl w.heap.size 9 i0 (.string ⟨#[]⟩) 1 16 Tryz.underlying24 HI.out HI0.out HI1.out HI2.out rfl (by decide) (.slice (some ⟨w.heap.size, 0, none⟩) 0 0) 0 [] (by rfl) (World.ownsRow_made w #[] 0 (Nat.le_refl _) (by unfold maxLen; omega) rfl) (.slice (some a) ts.length cp) ts.length (strs ts) (by rfl) (HR.out _ (alloc_below _ _)) (strs_oneCell _) (by unfold maxLen; omega) (by omega) (by simp) ?_; intro v' w5 hown5 hgrow5)
    have HO : Hid (w5.ownsRow w.heap.size 9 1 v' ts.length (strs ts)) := by show World.ownsRow _ _ _ _ _ _ _; simpa using hown5
    have HB := Lib.hid (((Below.refl w.heap.size w).alloc (Nat.le_refl _) (.cells #[] 9)).grown hgrow5 (by simp) (fun k hk => by simp [Value.ownBlock] at hk; omega))
    clear hown5 hgrow5
    go_wp2_with fail
    go_ret
    exact ⟨_, rfl, HO.out, HB.out⟩
set_option maxHeartbeats 2000000 in
set_option maxRecDepth 100000 in
/-- Insert of one text into a row of one's own. -/
theorem insText_any (v : Value) (ts : List (List UInt8)) (x : List UInt8) (base i vb : Nat) (w : World) (ho : w.ownsRow base 9 1 v ts.length (strs ts)) (hx : w.heap[vb]? = some (.cells #[.string ⟨x.toArray⟩] 9 (0, 0))) (hvb : ∀ k, v.ownBlock = some k → k ≠ vb)
    (hi : i ≤ ts.length) (hn : ts.length ≤ 1000000) (hb : base ≤ w.heap.size) :
    Calls Tryz.prog 63 #[v, .int .i64 i, .slice (some ⟨vb, 0, none⟩) 1 1] w fun e w' => ∃ v', e = .returned v' ∧ w'.ownsRow base 9 1 v' (ts.length + 1) (strs (ts.take i ++ x :: ts.drop i)) ∧ w.grownBy w' v.ownBlock := by
  obtain ⟨i0, hif, hz0, hz1, hz2⟩ := info_parts Tryz.infoStrM
  have HI := Lib.hid hif
  have HI0 := Lib.hid hz0
  have HI1 := Lib.hid hz1
  have HI2 := Lib.hid hz2
  clear hif hz0 hz1 hz2
  have HX := Lib.hid hx
  have HO := Lib.hid ho
  have hxs : Hid (strs (ts.take i ++ x :: ts.drop i) = (strs ts).take i ++ .string ⟨x.toArray⟩ :: (strs ts).drop i) := by show _ = _; simp [strs]
  rw [hxs.out]
  have hcx : ∀ j u, [Value.string ⟨x.toArray⟩][j]? = some u → w.cell? ((⟨vb, 0, none⟩ : Addr).add j) = some u := by
    intro j u hu
    cases j with
    | zero =>
      have : Value.string ⟨x.toArray⟩ = u := by simpa using hu
      subst this
      show w.cell? ⟨vb, 0, none⟩ = _
      rw [blk_cell hx]; rfl
    | succ j => simp at hu
  have HCX := Lib.hid hcx
  clear hcx
  rcases Nat.lt_or_ge i ts.length with hlt | hge
  · obtain ⟨g, cp, hv, hbg, hcp, hcm, hcells⟩ := own_open ho (by omega)
    subst hv
    obtain ⟨cur, hg, _, _, _, hcl, hct, hsl⟩ := own_cur ho
    have hgv : g ≠ vb := hvb g rfl
    unfold maxLen at hcm
    obtain ⟨n, hn'⟩ : ∃ n, n = ts.length := ⟨_, rfl⟩
    have hxl : (strs ts).length = n := by simp [strs, hn']
    rw [← hn'] at hcp ho hlt hct hsl hn HO
    rw [← hn']
    clear hn'
    have hone := strs_oneCell ts
    generalize strs ts = xs at *
    have hdl : (xs.drop i).length = n - i := by rw [List.length_drop, hxl]
    have hz1 : ¬ ((1 : Int) = 0) := by omega
    have hz2 : ¬ ((i : Int) = (n : Int)) := by omega
    have hw1 : IntKind.i64.wrap ((i : Int) + 1) = (i : Int) + 1 := by rw [IntKind.wrap_i64]; omega
    have hb1 : (0 : Int) ≤ (i : Int) + 1 := by omega
    have htn : ((i : Int) + 1).toNat = i + 1 := by omega
    have hb3 : (i : Int) ≤ (n : Int) + 1 := by omega
    have hb4 : ¬ (cp = i) := by omega
    have hin : i ≤ n := by omega
    have hgl : g < w.heap.size := blk_lt hg
    have hvl : vb < w.heap.size := blk_lt HX.out
    have hcg : ∀ j, j < cp → (w.cell? ⟨g, j, none⟩).isSome = true := fun j hj => by
      rw [blk_cell hg, List.getElem?_toArray, List.getElem?_eq_getElem (by omega)]; rfl
    have hfg : ∀ j, w.frozen? ⟨g, j, none⟩ = false := fun j => blk_frozen hg j
    by_cases hroom : n + 1 ≤ cp
    · have hb2 : ¬ (cp = i + 1) := by omega
      have hov : ∀ lb cb, (callFunc 87 #[.slice (some ⟨vb, 0, none⟩) 1 1, .slice (some ⟨g, i + 1, none⟩) lb cb]).run Tryz.prog w = .ok (.value (.bool false)) w := fun lb cb => by
        rw [run_callFunc_extern Tryz.func87 (by kernel_rfl) (by kernel_rfl) (by kernel_rfl) (e := Extern.SlicesOverlaps.overlaps #[24, 24] #[4]) (by kernel_rfl),
          Lib.run_overlaps_apart w 24 4 9 Tryz.underlying24 1 (fun w => by kernel_rfl) ⟨vb, 0, none⟩ ⟨g, i + 1, none⟩ 1 1 lb cb (by simpa using Ne.symm hgv) 9 9 1 cp (by unfold World.shape?; simp only [HX.out]; rfl) (by unfold World.shape?; simp only [hg]; simp [hcl]) (by omega) (blk_frozen HX.out 0) (blk_frozen HX.out 1)]
        rfl
      have hcp1 : ∀ ty dc sc, (Builtin.copy_ #[24, 24] ty #[.slice (some ⟨g, i + 1, none⟩) (n - i) dc, .slice (some ⟨g, i, none⟩) (n + 1 - i) sc]).run Tryz.prog w.drew = .ok (goInt (xs.drop i).length) (w.drew.setCells g (i + 1) (xs.drop i)) := fun ty dc sc =>
        run_copy_cells w.drew _ _ ty 9 g (i + 1) (n - i) dc ⟨g, i, none⟩ (n + 1 - i) sc (xs.drop i) Tryz.underlying24 Tryz.sizeStr (by rw [hdl]; simp only [Nat.min_def]; split <;> omega)
          (fun j v hj => by rw [Addr.add_lit]; exact hcells (i + j) v (by rwa [List.getElem?_drop] at hj))
          (fun j hj => by exact hcg _ (by omega)) (fun j hj => by exact hfg _) (fun v hv => hone v (List.mem_of_mem_drop hv))
      obtain ⟨W1, hW1⟩ : ∃ W1, W1 = w.drew.setCells g (i + 1) (xs.drop i) := ⟨_, rfl⟩
      have hg1 : W1.heap[g]? = some (.cells (spl cur (i + 1) (xs.drop i)).toArray 9 (0, 0)) := by rw [hW1]; exact heap_setCells g _ _ _ _ _ hg (by omega)
      have hgr1 : w.grownBy W1 (some g) := by rw [hW1]; exact grown_drew (grown_setCells g _ _ _)
      have hl1 : (spl cur (i + 1) (xs.drop i)).length = cp := by rw [spl_length _ _ _ (by omega)]; exact hcl
      have hx1 : W1.heap[vb]? = some (.cells #[.string ⟨x.toArray⟩] 9 (0, 0)) := (hgr1.block vb hvl (by intro h; injection h with h; exact hgv h.symm)).trans HX.out
      have hcp2 : ∀ ty dc, (Builtin.copy_ #[24, 24] ty #[.slice (some ⟨g, i, none⟩) (n + 1 - i) dc, .slice (some ⟨vb, 0, none⟩) 1 1]).run Tryz.prog W1 = .ok (goInt 1) (W1.setCells g i [.string ⟨x.toArray⟩]) := fun ty dc =>
        run_copy_cells W1 _ _ ty 9 g i (n + 1 - i) dc ⟨vb, 0, none⟩ 1 1 [.string ⟨x.toArray⟩] Tryz.underlying24 Tryz.sizeStr (by simp only [Nat.min_def, List.length_singleton]; split <;> omega)
          (fun j u hu => by
            cases j with
            | zero => have : Value.string ⟨x.toArray⟩ = u := by simpa using hu
                      subst this
                      show W1.cell? ⟨vb, 0, none⟩ = _
                      rw [blk_cell hx1]; rfl
            | succ j => simp at hu)
          (fun j hj => by rw [blk_cell hg1, List.getElem?_toArray, List.getElem?_eq_getElem (by simp at hj; omega)]; rfl) (fun j hj => blk_frozen hg1 _) (one_str _)
      obtain ⟨W2, hW2⟩ : ∃ W2, W2 = W1.setCells g i [.string ⟨x.toArray⟩] := ⟨_, rfl⟩
      have hg2 : W2.heap[g]? = some (.cells (spl (spl cur (i + 1) (xs.drop i)) i [.string ⟨x.toArray⟩]).toArray 9 (0, 0)) := by rw [hW2]; exact heap_setCells g _ _ _ _ _ hg1 (by simp; omega)
      have hgr2 : W1.grownBy W2 (some g) := by rw [hW2]; exact grown_setCells g _ _ _
      have HG := Lib.hid (show w.grownBy W2 (some g) from grown_trans hgr1 hgr2)
      have HO2 := Lib.hid (own_of_cur (n := n + 1) (cp := cp) hg2 hbg hroom (by unfold maxLen; omega) (by rw [spl_length _ _ _ (by simp; omega)]; exact hl1) (shift_one cur xs _ n i hct (by omega) hlt))
      rw [← hW1] at hcp1
      rw [← hW2] at hcp2
      have hrm : ¬ ((cp : Int) < (n : Int) + 1) := by omega
      clear hW1 hW2 hg1 hg2 hgr1 hgr2 hx1 hl1 hcg hfg hcells ho HO hx hvb hg hct hsl hcl hone hxl hxs
      go_enter Tryz.func63, Tryz.ntmps63
      go_wp2_with (simp only [hov])
      go_region_law (refine step_copy_runI rfl _ _ 24 24 rfl _ _ (by simp [Act.eval, Act.put]) (by simp [Act.eval, Act.put]) (hcp1 _ _ _) ?_)
      go_wp2_with (at_builtin; refine wpList_copy_runI _ rfl _ _ 24 24 rfl _ _ rfl rfl (hcp2 _ _) ?_)
      go_ret
      exact ⟨_, rfl, HO2.out, HG.out⟩
    · have hce : cp = n := by omega
      subst hce
      have hrm : (cp : Int) < (cp : Int) + 1 := by omega
      have hkk : (cp : Int) + 1 - (i : Int) = ((cp + 1 - i : Nat) : Int) := by omega
      have hik : i + (cp + 1 - i) = cp + 1 := by omega
      have hN0 : w.heap.size ≠ g := by omega
      have hold : (Builtin.firstCells i0.size i (.slice (some ⟨g, 0, none⟩) i cp)).run Tryz.prog w.drew = .ok (xs.take i).toArray w.drew := by
        rw [HI1.out]
        exact run_firstCells_some w.drew 1 i ⟨g, 0, none⟩ i cp (xs.take i) (by rw [List.length_take]; omega) (fun j v hj => by
          rw [Addr.add_lit, Nat.zero_add]
          rw [List.getElem?_take] at hj
          split at hj
          · exact hcells j v hj
          · cases hj)
      have hrz : ∀ ty, (Builtin.append_ #[24, 3] ty #[.slice (some ⟨g, 0, none⟩) i cp, .int .i64 ((cp : Int) + 1 - (i : Int))]).run Tryz.prog w =
          .ok (.slice (some ⟨w.heap.size, 0, none⟩) (cp + 1) (grownCap w (cp + 1) cp 9)) (w.drew.alloc (.cells ((xs.take i).toArray ++ Builtin.zeroCells (Value.string ⟨#[]⟩).cells (cp + 1 - i) ++ Builtin.zeroCells (Value.string ⟨#[]⟩).cells (grownCap w (cp + 1) cp 9 - (cp + 1))) 9)) := fun ty => by
        have h := Lib.run_append_grow_zeros w 24 3 ty 9 i0 _ .i64 .i64 Tryz.underlying24 Tryz.underlying3 HI.out HI0.out (some ⟨g, 0, none⟩) i cp (xs.take i) hold (cp + 1 - i) (by omega) (by rw [HI1.out]; omega) (by omega) (by omega) (by rw [HI2.out]; omega) (by rw [HI2.out, hik]; exact growslice_fits (by omega) (by omega))
        rw [hik] at h
        rw [hkk]
        exact h
      obtain ⟨G, hG⟩ : ∃ G, G = grownCap w (cp + 1) cp 9 := ⟨_, rfl⟩
      have hGn : cp + 1 ≤ G := by rw [hG]; exact grownCap_ge w _ _ _
      have hG63 : G ≤ maxLen := by rw [hG]; exact grownCap_le_maxLen w (cp + 1) cp 9 (by unfold maxLen; omega)
      rw [← hG] at hrz
      obtain ⟨ROW, hROW⟩ : ∃ ROW : List Value, ROW = xs.take i ++ List.replicate (cp + 1 - i) (Value.string ⟨#[]⟩) ++ List.replicate (G - (cp + 1)) (Value.string ⟨#[]⟩) := ⟨_, rfl⟩
      have hRA : (xs.take i).toArray ++ Builtin.zeroCells (Value.string ⟨#[]⟩).cells (cp + 1 - i) ++ Builtin.zeroCells (Value.string ⟨#[]⟩).cells (G - (cp + 1)) = ROW.toArray := by
        rw [hROW]
        rw [show (Value.string ⟨#[]⟩).cells = #[Value.string ⟨#[]⟩] from rfl, zero_one, zero_one]
        simp
      rw [hRA] at hrz
      have hRl : ROW.length = G := by rw [hROW]; simp; omega
      obtain ⟨W1, hW1⟩ : ∃ W1, W1 = w.drew.alloc (.cells ROW.toArray 9) := ⟨_, rfl⟩
      rw [← hW1] at hrz
      have hg1 : W1.heap[w.heap.size]? = some (.cells ROW.toArray 9 (0, 0)) := by rw [hW1]; exact heap_alloc_new w.drew _
      have hb1' : Below w.heap.size w W1 := by rw [hW1]; exact (Below.refl _ _).drew.alloc (Nat.le_refl _) _
      have hx1 : W1.heap[vb]? = some (.cells #[.string ⟨x.toArray⟩] 9 (0, 0)) := (hb1'.block vb hvl).trans HX.out
      have hgg1 : W1.heap[g]? = some (.cells cur.toArray 9 (0, 0)) := (hb1'.block g hgl).trans hg
      have hcp2 : ∀ ty dc, (Builtin.copy_ #[24, 24] ty #[.slice (some ⟨w.heap.size, i, none⟩) (cp + 1 - i) dc, .slice (some ⟨vb, 0, none⟩) 1 1]).run Tryz.prog W1 = .ok (goInt 1) (W1.setCells w.heap.size i [.string ⟨x.toArray⟩]) := fun ty dc =>
        run_copy_cells W1 _ _ ty 9 w.heap.size i (cp + 1 - i) dc ⟨vb, 0, none⟩ 1 1 [.string ⟨x.toArray⟩] Tryz.underlying24 Tryz.sizeStr (by simp only [Nat.min_def, List.length_singleton]; split <;> omega)
          (fun j u hu => by
            cases j with
            | zero => have : Value.string ⟨x.toArray⟩ = u := by simpa using hu
                      subst this
                      show W1.cell? ⟨vb, 0, none⟩ = _
                      rw [blk_cell hx1]; rfl
            | succ j => simp at hu)
          (fun j hj => by rw [blk_cell hg1, List.getElem?_toArray, List.getElem?_eq_getElem (by simp at hj; omega)]; rfl) (fun j hj => blk_frozen hg1 _) (one_str _)
      obtain ⟨W2, hW2⟩ : ∃ W2, W2 = W1.setCells w.heap.size i [.string ⟨x.toArray⟩] := ⟨_, rfl⟩
      have hg2 : W2.heap[w.heap.size]? = some (.cells (spl ROW i [.string ⟨x.toArray⟩]).toArray 9 (0, 0)) := by rw [hW2]; exact heap_setCells _ _ _ _ _ _ hg1 (by simp; omega)
      have hgr2 : W1.grownBy W2 (some w.heap.size) := by rw [hW2]; exact grown_setCells _ _ _ _
      have hl2 : (spl ROW i [Value.string ⟨x.toArray⟩]).length = G := by rw [spl_length _ _ _ (by simp; omega)]; exact hRl
      have hgg2 : W2.heap[g]? = some (.cells cur.toArray 9 (0, 0)) := (hgr2.block g (by have := hb1'.size; omega) (by intro h; injection h with h; exact hN0 h.symm)).trans hgg1
      rw [← hW2] at hcp2
      have hcp1 : ∀ ty dc sc, (Builtin.copy_ #[24, 24] ty #[.slice (some ⟨w.heap.size, i + 1, none⟩) (cp - i) dc, .slice (some ⟨g, i, none⟩) (cp - i) sc]).run Tryz.prog W2.drew = .ok (goInt (xs.drop i).length) (W2.drew.setCells w.heap.size (i + 1) (xs.drop i)) := fun ty dc sc =>
        run_copy_cells W2.drew _ _ ty 9 w.heap.size (i + 1) (cp - i) dc ⟨g, i, none⟩ (cp - i) sc (xs.drop i) Tryz.underlying24 Tryz.sizeStr (by rw [hdl]; simp only [Nat.min_def]; split <;> omega)
          (fun j v hj => by
            rw [Addr.add_lit]
            show W2.cell? ⟨g, i + j, none⟩ = some v
            rw [blk_cell hgg2, ← blk_cell hg]
            exact hcells (i + j) v (by rwa [List.getElem?_drop] at hj))
          (fun j hj => by
            show (W2.cell? ⟨w.heap.size, i + 1 + j, none⟩).isSome = true
            rw [blk_cell hg2, List.getElem?_toArray, List.getElem?_eq_getElem (by omega)]; rfl) (fun j hj => blk_frozen hg2 _) (fun v hv => hone v (List.mem_of_mem_drop hv))
      obtain ⟨W3, hW3⟩ : ∃ W3, W3 = W2.drew.setCells w.heap.size (i + 1) (xs.drop i) := ⟨_, rfl⟩
      have hg3 : W3.heap[w.heap.size]? = some (.cells (spl (spl ROW i [.string ⟨x.toArray⟩]) (i + 1) (xs.drop i)).toArray 9 (0, 0)) := by rw [hW3]; exact heap_setCells _ _ _ _ _ _ hg2 (by omega)
      have hgr3 : W2.grownBy W3 (some w.heap.size) := by rw [hW3]; exact grown_drew (grown_setCells _ _ _ _)
      rw [← hW3] at hcp1
      have hbel : Below w.heap.size w W3 := ((hb1'.grown hgr2 hb1'.size (fun k hk => by injection hk with hk; omega)).grown hgr3 (Nat.le_trans hb1'.size hgr2.size) (fun k hk => by injection hk with hk; omega))
      have HG := Lib.hid (show w.grownBy W3 (Value.slice (some ⟨g, 0, none⟩) cp cp).ownBlock from grown_below _ hbel)
      have hfin : (spl (spl ROW i [.string ⟨x.toArray⟩]) (i + 1) (xs.drop i)).take (cp + 1) = xs.take i ++ .string ⟨x.toArray⟩ :: xs.drop i := by rw [hROW]; exact fill_one xs _ _ _ cp i hxl hlt (by simp)
      have HO2 := Lib.hid (own_of_cur (n := cp + 1) (cp := G) hg3 hb hGn hG63 (by rw [spl_length _ _ _ (by omega)]; exact hl2) hfin)
      have hGi : ¬ (G = i) := by omega
      have hGim : ¬ (G = i + 1) := by omega
      have hG64 : G ≤ 9223372036854775807 := by unfold maxLen at hG63; omega
      clear hW1 hW2 hW3 hg1 hg2 hg3 hgr2 hgr3 hx1 hgg1 hgg2 hl2 hcg hfg hcells ho HO hx hvb hg hct hsl hcl hone hxl hxs hkk hik hold hROW hRA hRl hfin hG hG63 hb1' hbel hroom
      go_enter Tryz.func63, Tryz.ntmps63
      go_wp2_with (first
        | (at_builtin; refine Lib.wpList_append_run _ rfl _ _ _ _ rfl _ _ rfl rfl _ _ (hrz _) ?_)
        | (at_builtin; refine wpList_copy_runI _ rfl _ _ 24 24 rfl _ _ rfl rfl (hcp2 _ _) ?_))
      go_region_law (refine step_copy_runI rfl _ _ 24 24 rfl _ _ (by simp [Act.eval, Act.put]) (by simp [Act.eval, Act.put]) (hcp1 _ _ _) ?_)
      go_wp2_with fail
      go_ret
      exact ⟨_, rfl, HO2.out, HG.out⟩
  · obtain rfl : i = ts.length := by omega
    clear hge hi
    have hform := own_form ho
    obtain ⟨bs, cp, rfl, hcp, hcm, _⟩ := hform
    have HS : Hid ((strs ts).take ts.length ++ Value.string ⟨x.toArray⟩ :: (strs ts).drop ts.length = strs ts ++ [.string ⟨x.toArray⟩]) := by show _ = _; rw [List.take_of_length_le (by simp [strs]), List.drop_eq_nil_of_le (by simp [strs])]
    rw [HS.out]
    clear ho hx hvb
    unfold maxLen at hcm
    go_enter Tryz.func63, Tryz.ntmps63
    go_wp2_with (at_builtin; refine wpList_append_any _ rfl _ _ 24 rfl base 9 i0 (.string ⟨#[]⟩) 1 16 Tryz.underlying24 HI.out HI0.out HI1.out HI2.out rfl (by decide) _ _ _ (by rfl) HO.out (.slice (some ⟨vb, 0, none⟩) 1 1) 1 [.string ⟨x.toArray⟩] (by rfl) (.inr ⟨_, _, rfl, rfl, HCX.out⟩) (one_str _) (by unfold maxLen; omega) (by omega) hb ?_; intro v' w5 hown5 hgrow5)
    all_goals go_ret
    all_goals exact ⟨_, rfl, hown5, by cases bs <;> exact hgrow5⟩
end Go.Proofs.YtienlhnbmobinaaGreat
namespace Go.Proofs.YtienlhnbmobinaaGreat
open Go.RowKit
set_option linter.unusedVariables false
set_option linter.unusedSimpArgs false
open Go.Lib Go.Sort
set_option maxHeartbeats 2000000 in
set_option maxRecDepth 100000 in
/-- Delete of one text out of a row of one's own. -/
theorem delText_any (v : Value) (ts : List (List UInt8)) (base i : Nat) (w : World) (ho : w.ownsRow base 9 1 v ts.length (strs ts)) (hi : i < ts.length) (hn : ts.length ≤ 1000000) (hb : base ≤ w.heap.size) :
    Calls Tryz.prog 66 #[v, .int .i64 i, .int .i64 ((i : Int) + 1)] w fun e w' => ∃ v', e = .returned v' ∧ w'.ownsRow base 9 1 v' (ts.length - 1) (strs (ts.take i ++ ts.drop (i + 1))) ∧ w.grownBy w' v.ownBlock := by
  obtain ⟨g, cp, hv, hbg, hcp, hcm, hcells⟩ := own_open ho (by omega)
  subst hv
  obtain ⟨cur, hg, _, _, _, hcl, hct, hsl⟩ := own_cur ho
  have hS : Lib.strsOf (fun j => (⟨(ts.getD j []).toArray⟩ : ByteArray)) ts.length = ts := by
    unfold Lib.strsOf
    apply List.ext_getElem (by simp)
    intro k h1 h2
    simp at h1
    simp [h1]
  have h := Tryz.slices_Delete_string_cells g 0 ts.length cp i (i + 1) (fun j => ⟨(ts.getD j []).toArray⟩) w hcp (by unfold maxLen at hcm; omega) (by omega) (by omega)
    (fun j hj => by rw [Nat.zero_add]; exact hcells j _ (by rw [strs_get ts j hj, List.getD_eq_getElem?_getD, List.getElem?_eq_getElem hj]; rfl)) (fun j hj => blk_frozen hg _)
  rw [hS] at h
  refine (h.mono ?_)
  rintro e w' ⟨rfl, q, rfl⟩
  have hvs : ((ts.take i ++ ts.drop (i + 1) ++ List.replicate (i + 1 - i) []).map encStr) = strs (ts.take i ++ ts.drop (i + 1)) ++ [.string ⟨#[]⟩] := by
    rw [show i + 1 - i = 1 by omega, List.map_append]
    rfl
  rw [hvs]
  have hlen : (strs (ts.take i ++ ts.drop (i + 1))).length = ts.length - 1 := by simp [strs]; omega
  have hg2 : ((w.drewN q).setCells g 0 (strs (ts.take i ++ ts.drop (i + 1)) ++ [.string ⟨#[]⟩])).heap[g]? = some (.cells (spl cur 0 (strs (ts.take i ++ ts.drop (i + 1)) ++ [.string ⟨#[]⟩])).toArray 9 (0, 0)) := heap_setCells g _ _ _ _ _ hg (by rw [List.length_append, hlen]; simp; omega)
  refine ⟨_, rfl, ?_, ?_⟩
  · rw [show ts.length - (i + 1 - i) = ts.length - 1 by omega]
    refine own_of_cur hg2 hbg (by omega) hcm (by rw [spl_length _ _ _ (by rw [List.length_append, hlen]; simp; omega)]; exact hcl) ?_
    unfold spl
    rw [List.take_zero, List.nil_append, List.append_assoc, List.take_left' hlen]
  · have := grown_setCells g (strs (ts.take i ++ ts.drop (i + 1)) ++ [.string ⟨#[]⟩]) 0 (w.drewN q)
    exact ⟨this.os, this.tape, this.output, this.size, this.block⟩
end Go.Proofs.YtienlhnbmobinaaGreat
end

section
/- a page stored whole -/
namespace Go.Proofs.YtienlhnbmobinaaGreat
open Go.RowKit
set_option linter.unusedVariables false
set_option linter.unusedSimpArgs false
theorem setRow_pg {w : World} {g kind level id lsn next : Nat} {sv : Value} (h : PgBox w g kind level id lsn next sv) (kind' level' id' lsn' next' : Nat) (sv' : Value) : PgBox (w.setRow g #[.int .u8 kind', .int .u8 level', .int .u32 id', .int .u64 lsn', .int .u32 next', sv']) g kind' level' id' lsn' next' sv' :=
  setRow_heap w g _ _ _ _ h
theorem setRow_kept (w : World) (g : Nat) (cs : Array Value) : OthersKept w (w.setRow g cs) (fun x => x = g) :=
  ⟨rfl, rfl, rfl, by simp, fun k _ hn => setRow_other w g k cs hn⟩
set_option maxRecDepth 100000 in
/-- A page stored whole into its box. -/
theorem wpList_store_pg {ops : Array Oper} {rest : List Oper} {o : Oper} {a : Act} {w : World} {Q : Exit → Act → World → Prop} (hgd : o.guard = none) (x y : Operand) (ho : o.op = .store 26 x y)
    {g kind level id lsn next : Nat} {sv : Value} (h : PgBox w g kind level id lsn next sv) (kind' level' id' lsn' next' : Nat) (b : Option Addr) (n c : Nat)
    (hx : a.eval x = .pointer (some ⟨g, 0, none⟩)) (hy : a.eval y = .agg #[.int .u8 kind', .int .u8 level', .int .u32 id', .int .u64 lsn', .int .u32 next', .slice b n c])
    (hk : ∀ W, PgBox W g kind' level' id' lsn' next' (.slice b n c) → OthersKept w W (fun x => x = g) → wpList Tryz.prog ops Q rest (a.put o.dst undef) W) : wpList Tryz.prog ops Q (o :: rest) a w :=
  wpList_store_row hgd 26 x y ho g _ hx hy 26 _ h (by kernel_rfl) rfl (by simp [Value.oneCell']) (hk _ (setRow_pg h kind' level' id' lsn' next' (.slice b n c)) (setRow_kept _ _ _))
end Go.Proofs.YtienlhnbmobinaaGreat
end

section
/- chapter 11: ops as plain data -/
namespace Go.Proofs.YtienlhnbmobinaaGreat
open Go.RowKit
set_option linter.unusedVariables false
set_option linter.unusedSimpArgs false
/-- An op as plain data. -/
structure Od where
  kind : Nat
  page : Nat
  at_ : Int
  off : Int
  text : List UInt8
  rows : List (List UInt8)
  pk : Nat
  lv : Nat
  nx : Nat
  deriving DecidableEq
def Od.zero : Od := ⟨0, 0, 0, 0, [], [], 0, 0, 0⟩
/-- An op's numbers are in range. -/
def Od.wf (o : Od) : Prop := o.kind < 256 ∧ o.page < 256 ^ 4 ∧ (-9223372036854775808 ≤ o.at_ ∧ o.at_ ≤ 9223372036854775807) ∧ (-9223372036854775808 ≤ o.off ∧ o.off ≤ 9223372036854775807) ∧ o.pk < 256 ∧ o.lv < 256 ∧ o.nx < 256 ^ 4
/-- An op's value. -/
def odV (o : Od) (sv : Value) : Value := .agg #[.int .u8 o.kind, .int .u32 o.page, .int .i64 o.at_, .int .i64 o.off, .string ⟨o.text.toArray⟩, sv, .int .u8 o.pk, .int .u8 o.lv, .int .u32 o.nx]
/-- How many bytes texts have. -/
def lensB (rows : List (List UInt8)) : Nat := (rows.map List.length).sum
theorem lensB_nil : lensB [] = 0 := rfl
theorem lensB_cons (r : List UInt8) (rows : List (List UInt8)) : lensB (r :: rows) = r.length + lensB rows := by simp [lensB]
theorem lensB_append (a b : List (List UInt8)) : lensB (a ++ b) = lensB a + lensB b := by simp [lensB, List.sum_append]
theorem lensB_take (rows : List (List UInt8)) (k : Nat) (h : k < rows.length) : lensB (rows.take (k + 1)) = lensB (rows.take k) + rows[k].length := by
  rw [List.take_succ_eq_append_getElem h, lensB_append]
  simp [lensB]
theorem lensB_take_le (rows : List (List UInt8)) (k : Nat) : lensB (rows.take k) ≤ lensB rows := by
  conv => rhs; rw [← List.take_append_drop k rows, lensB_append]
  omega
/-- An op of what its kind has alone. -/
def Od.only (o : Od) : Od :=
  match o.kind with
  | 1 => ⟨o.kind, o.page, 0, 0, [], [], o.pk, o.lv, o.nx⟩
  | 2 => ⟨o.kind, o.page, o.at_, 0, o.text, [], 0, 0, 0⟩
  | 3 => ⟨o.kind, o.page, o.at_, 0, o.text, [], 0, 0, 0⟩
  | 4 => ⟨o.kind, o.page, o.at_, 0, [], [], 0, 0, 0⟩
  | 5 => ⟨o.kind, o.page, o.at_, 0, [], [], 0, 0, 0⟩
  | 6 => ⟨o.kind, o.page, 0, 0, [], o.rows, 0, 0, 0⟩
  | 7 => ⟨o.kind, o.page, 0, 0, [], [], 0, 0, o.nx⟩
  | 8 => ⟨o.kind, o.page, o.at_, o.off, o.text, [], 0, 0, 0⟩
  | _ => ⟨o.kind, o.page, 0, 0, [], [], 0, 0, 0⟩
/-- Which ops may be. -/
def Od.may (o : Od) : Bool := decide (1 ≤ o.kind ∧ o.kind ≤ 8 ∧ 1 ≤ o.page ∧ o.page ≤ 1024 ∧ o.nx ≤ 1024 ∧ o.pk ≤ 5) && (decide (0 ≤ o.at_ ∧ o.at_ ≤ 488 ∧ 0 ≤ o.off ∧ o.off ≤ 488 ∧ o.rows.length ≤ 488) && (decide (o.text.length + lensB o.rows ≤ 488) && decide (o = o.only)))
/-- A text with its length ahead. -/
def pieceB (t : List UInt8) : List UInt8 := be 2 t.length ++ t
/-- An op's bytes. -/
def Od.enc (o : Od) : List UInt8 :=
  be 1 o.kind ++ be 4 o.page ++
  match o.kind with
  | 1 => be 1 o.pk ++ be 1 o.lv ++ be 4 o.nx
  | 2 => be 2 o.at_.toNat ++ pieceB o.text
  | 3 => be 2 o.at_.toNat ++ pieceB o.text
  | 4 => be 2 o.at_.toNat
  | 5 => be 2 o.at_.toNat
  | 7 => be 4 o.nx
  | 8 => be 2 o.at_.toNat ++ be 2 o.off.toNat ++ pieceB o.text
  | _ => be 2 o.rows.length ++ o.rows.flatMap pieceB
/-- What stands in a coder. -/
structure Cd where
  o : Od
  s : List UInt8
  at_ : Nat
  rd : Bool
  bad : Bool
/-- A number gone through: its value, the bytes, the place, the flag. -/
def Cd.numV (c : Cd) (size : Nat) (v : Int) : Int := if c.rd then (rdNum c.s c.at_ size : Nat) else v
def Cd.numS (c : Cd) (size : Nat) (v : Int) : List UInt8 := if c.rd then c.s else c.s ++ (if 0 ≤ v ∧ v < 256 ^ size then be size v.toNat else [])
def Cd.numA (c : Cd) (size : Nat) : Nat := if c.rd then c.at_ + size else c.at_
def Cd.numX (c : Cd) (size most : Nat) (v : Int) : Bool := c.bad || !(if c.rd then decide (c.at_ + size ≤ c.s.length) && decide (rdNum c.s c.at_ size ≤ most) else decide (0 ≤ v ∧ v ≤ most))
/-- A coder behind a number (whose value goes elsewhere). -/
def Cd.num (c : Cd) (size most : Nat) (v : Int) : Cd := ⟨c.o, c.numS size v, c.numA size, c.rd, c.numX size most v⟩
/-- A text gone through: its value, and the coder. -/
def Cd.pieceV (c : Cd) (t : List UInt8) : List UInt8 := if c.rd then rdText c.s (c.at_ + 2) (rdNum c.s c.at_ 2) else t
def Cd.piece (c : Cd) (t : List UInt8) : Cd :=
  if c.rd then ⟨c.o, c.s, c.at_ + 2 + rdNum c.s c.at_ 2, true, (c.num 2 488 t.length).bad || !decide (c.at_ + 2 + rdNum c.s c.at_ 2 ≤ c.s.length)⟩
  else ⟨c.o, (c.num 2 488 t.length).s ++ t, c.at_, false, (c.num 2 488 t.length).bad⟩
def Cd.set (c : Cd) (o : Od) : Cd := ⟨o, c.s, c.at_, c.rd, c.bad⟩
inductive Part
  | kind | level | next | place | off | text | rows
  deriving DecidableEq
/-- The rows gone through: how many are left, which one, how many bytes there were. -/
def Cd.rowsGo : Nat → Nat → Nat → Cd → Cd
  | 0, _, _, c => c
  | k + 1, i, all, c =>
    let t := c.o.rows.getD i []
    let c2 := (c.piece t).set { c.o with rows := if c.rd then c.o.rows ++ [c.pieceV t] else c.o.rows }
    if c2.bad || decide (488 < all + (c.pieceV t).length) then ⟨c2.o, c2.s, c2.at_, c2.rd, true⟩ else Cd.rowsGo k (i + 1) (all + (c.pieceV t).length) c2
def Part.run : Part → Cd → Cd
  | .kind, c => (c.num 1 5 c.o.pk).set { c.o with pk := (c.numV 1 c.o.pk).toNat }
  | .level, c => (c.num 1 255 c.o.lv).set { c.o with lv := (c.numV 1 c.o.lv).toNat }
  | .next, c => (c.num 4 1024 c.o.nx).set { c.o with nx := (c.numV 4 c.o.nx).toNat }
  | .place, c => (c.num 2 488 c.o.at_).set { c.o with at_ := c.numV 2 c.o.at_ }
  | .off, c => (c.num 2 488 c.o.off).set { c.o with off := c.numV 2 c.o.off }
  | .text, c => (c.piece c.o.text).set { c.o with text := c.pieceV c.o.text }
  | .rows, c => if (c.num 2 488 c.o.rows.length).bad then c.num 2 488 c.o.rows.length else Cd.rowsGo (c.numV 2 c.o.rows.length).toNat 0 0 (c.num 2 488 c.o.rows.length)
def partsOf : Nat → List Part
  | 1 => [.kind, .level, .next]
  | 2 => [.place, .text]
  | 3 => [.place, .text]
  | 4 => [.place]
  | 5 => [.place]
  | 6 => [.rows]
  | 7 => [.next]
  | 8 => [.place, .off, .text]
  | _ => []
/-- An op gone through. -/
def Cd.head (c : Cd) : Cd := 
  let c1 := (c.num 1 255 c.o.kind).set { c.o with kind := (c.numV 1 c.o.kind).toNat }
  let c2 := (c1.num 4 1024 c1.o.page).set { c1.o with page := (c1.numV 4 c1.o.page).toNat }
  ⟨c2.o, c2.s, c2.at_, c2.rd, c2.bad || !(decide (1 ≤ c2.o.kind ∧ c2.o.kind ≤ 8)) || decide (c2.o.page < 1)⟩
def Cd.op (c : Cd) : Cd := (partsOf c.head.o.kind).foldl (fun c p => p.run c) c.head
end Go.Proofs.YtienlhnbmobinaaGreat
end

section
/- chapter 01: words, in lists -/
namespace Go.Proofs.YtienlhnbmobinaaGreat
open Go.RowKit
set_option linter.unusedVariables false
set_option linter.unusedSimpArgs false
theorem cut_text (l : List UInt8) (a n : Nat) (h : a + n ≤ l.length) : (⟨l.toArray⟩ : ByteArray).extract a (a + n) = ⟨(rdText l a n).toArray⟩ := by
  unfold rdText
  rw [if_pos h]
  apply bytes_ext
  rw [ByteArray.data_extract]
  simp
theorem wCut (l : List UInt8) (a n : Nat) (w : World) (hs : l.length ≤ 1000000) (ha : a ≤ 2000000) (hn : n ≤ 2000000) :
    Calls Tryz.prog 74 #[.string ⟨l.toArray⟩, .int .i64 a, .int .i64 n] w fun e w' => e = .returned (.tuple #[.string ⟨(rdText l a n).toArray⟩, .bool (decide (a + n ≤ l.length))]) ∧ w = w' := by
  have hsz : (⟨l.toArray⟩ : ByteArray).size = l.length := by show l.toArray.size = l.length; simp
  by_cases h : a + n ≤ l.length
  · rw [decide_eq_true h, ← cut_text l a n h]
    exact cut_yes _ a n w (by unfold maxLen; omega) (by omega)
  · have : rdText l a n = [] := by unfold rdText; rw [if_neg h]
    rw [decide_eq_false h, this]
    exact cut_no _ a n w (by unfold maxLen; omega) (Or.inr (Or.inr (by omega))) (by omega) (by omega)
theorem wGet (l : List UInt8) (a k : Nat) (w : World) (hs : l.length ≤ 1000000) (ha : a ≤ 2000000) (h1 : 1 ≤ k) (h8 : k ≤ 8) :
    Calls Tryz.prog 47 #[.string ⟨l.toArray⟩, .int .i64 a, .int .i64 k] w fun e w' => e = .returned (.tuple #[.int .u64 (rdNum l a k), .bool (decide (a + k ≤ l.length))]) ∧ Below w.heap.size w w' := by
  have hsz : (⟨l.toArray⟩ : ByteArray).size = l.length := by show l.toArray.size = l.length; simp
  by_cases h : a + k ≤ l.length
  · have hn : rdNum l a k = un ((l.drop a).take k) := by unfold rdNum; rw [if_pos h]
    rw [decide_eq_true h, hn]
    exact get_yes ⟨l.toArray⟩ a k w (by unfold maxLen; omega) (by omega) h1 h8
  · have hn : rdNum l a k = 0 := by unfold rdNum; rw [if_neg h]
    rw [decide_eq_false h, hn]
    exact (get_no ⟨l.toArray⟩ a k w (by unfold maxLen; omega) (Or.inr (Or.inr (by omega))) (by omega) (by omega)).mono fun _ _ ⟨h1, h2⟩ => ⟨h1, h2 ▸ Below.refl _ _⟩
theorem put_no1 (n : Nat) (w : World) (hn : 256 ≤ n) (h64 : n < 256 ^ 8) :
    Calls Tryz.prog 57 #[.int .u64 n, .int .i64 1] w fun e w' => e = .returned (.tuple #[.string ⟨#[]⟩, .bool false]) ∧ w = w' := by
  simp only [Nat.reducePow] at h64
  have hx : ((n : Int) / 256 != 0) = true := by simp; omega
  go_enter Tryz.func57, Tryz.ntmps57
  go_wp2_with fail
  go_ret2
  exact ⟨rfl, rfl⟩
theorem put_no2 (n : Nat) (w : World) (hn : 65536 ≤ n) (h64 : n < 256 ^ 8) :
    Calls Tryz.prog 57 #[.int .u64 n, .int .i64 2] w fun e w' => e = .returned (.tuple #[.string ⟨#[]⟩, .bool false]) ∧ w = w' := by
  simp only [Nat.reducePow] at h64
  have hx : ((n : Int) / 65536 != 0) = true := by simp; omega
  go_enter Tryz.func57, Tryz.ntmps57
  go_wp2_with fail
  go_ret2
  exact ⟨rfl, rfl⟩
/-- A number's bytes; none, if it has more. -/
def putN (k n : Nat) : List UInt8 := if n < 256 ^ k then be k n else []
theorem wPut1 (n : Nat) (w : World) (h64 : n < 256 ^ 8) :
    Calls Tryz.prog 57 #[.int .u64 n, .int .i64 1] w fun e w' => e = .returned (.tuple #[.string ⟨(putN 1 n).toArray⟩, .bool (decide (n < 256))]) ∧ Below w.heap.size w w' := by
  unfold putN
  by_cases h : n < 256
  · rw [decide_eq_true h, if_pos (by simpa using h)]
    exact put_1 n w (by simpa using h)
  · rw [decide_eq_false h, if_neg (by simpa using h)]
    exact (put_no1 n w (by omega) h64).mono fun _ _ ⟨h1, h2⟩ => ⟨h1, h2 ▸ Below.refl _ _⟩
theorem wPut2 (n : Nat) (w : World) (h64 : n < 256 ^ 8) :
    Calls Tryz.prog 57 #[.int .u64 n, .int .i64 2] w fun e w' => e = .returned (.tuple #[.string ⟨(putN 2 n).toArray⟩, .bool (decide (n < 65536))]) ∧ Below w.heap.size w w' := by
  unfold putN
  by_cases h : n < 65536
  · rw [decide_eq_true h, if_pos (by simpa using h)]
    exact put_2 n w (by simpa using h)
  · rw [decide_eq_false h, if_neg (by simpa using h)]
    exact (put_no2 n w (by omega) h64).mono fun _ _ ⟨h1, h2⟩ => ⟨h1, h2 ▸ Below.refl _ _⟩
end Go.Proofs.YtienlhnbmobinaaGreat
end
