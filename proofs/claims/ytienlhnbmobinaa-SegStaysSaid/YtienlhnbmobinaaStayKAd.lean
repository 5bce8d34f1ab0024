/- Kept of our texts for this claim: TextsMove PgStore SegBox OpWord SegCode SegDec -/
import Derived.Test.YtienlhnbmobinaaRows
import Derived.Test.YtienlhnbmobinaaStayKAa
import Derived.Shelf.Spec.SlicesInsertGrow
import Derived.Deep.RegionLaw
import Derived.WalkKit
import Derived.WalkLawsBesides
import Derived.WalkSpells
import Derived.LoopTactic
import Derived.WalkMore
import Derived.LoopN
import Derived.Laws.BitsAllLaws
import Derived.Laws.IdiomStrings
import Derived.BigQuiet
import Derived.Deep.QuietTactic
import Derived.Deep.DeepCutAuto
import Derived.Deep.RegionHeld3
import Derived.Deep.DrawnRows
import Derived.Lib.Hide
import Derived.Outline
import Derived.Deep.DeepMust
import Derived.Handy
import Derived.Test.YtienlhnbmobinaaStayKAb
import Derived.Laws.Tables
import Derived.Test.YtienlhnbmobinaaStayKAc
section
/- slices.Clone, Insert at texts; slices.Delete, Replace at texts -/
namespace Go.Proofs.Ytienlhnbmobinaa
open Go.RowKit
set_option linter.unusedVariables false
set_option linter.unusedSimpArgs false
open Go.Lib
theorem strs_take (ts : List (List UInt8)) (k : Nat) : strs (ts.take k) = (strs ts).take k := by simp [strs]
theorem strs_oneCell (ts : List (List UInt8)) : ∀ u ∈ strs ts, u.oneCell' = true := by
  intro u hu
  obtain ⟨t, _, rfl⟩ := List.mem_map.1 hu
  rfl
theorem Try.sizeStr : (Try.prog.info? 9).map (·.size) = some 1 := by kernel_rfl
theorem zero_one (z : Value) (k : Nat) : Builtin.zeroCells #[z] k = (List.replicate k z).toArray := by
  unfold Builtin.zeroCells
  apply Array.ext
  · simp
  · intro i h1 h2
    simp [Nat.mod_one]
theorem Try.infoStrM : (Try.prog.info? 9).map (fun i => (i.zero, i.size, i.bytes)) = some (some (.string ⟨#[]⟩), 1, 16) := by kernel_rfl
/-- What a call leaves that gives a row of texts of its own. -/
def OwnPost (w : World) (ts : List (List UInt8)) (e : Ending) (w' : World) : Prop := ∃ v, e = .returned v ∧ w'.ownsRow w.heap.size 9 1 v ts.length (strs ts) ∧ Below w.heap.size w w'
set_option maxHeartbeats 2000000 in
set_option maxRecDepth 100000 in
theorem cloneTexts_any (sv : Value) (ts : List (List UInt8)) (w : World) (ht : TextsAt w sv ts) (hn : ts.length ≤ 1000000) :
    Calls Try.prog 84 #[sv] w (OwnPost w ts) := by
  have HR := Lib.hid fun w' (hb : Below w.heap.size w w') => (ht.below hb).reads
  obtain ⟨A, cp, rfl, h2, h3, h4, h5⟩ := ht
  unfold maxLen at h3
  have H4 := Lib.hid h4
  obtain ⟨i0, hi, hz0, hz1, hz2⟩ := info_parts Try.infoStrM
  have HI := Lib.hid hi
  have HI0 := Lib.hid hz0
  have HI1 := Lib.hid hz1
  have HI2 := Lib.hid hz2
  clear hi hz0 hz1 hz2 h4 h5
  have eq := fun W => Lib.run_eql_slice_nil (P := Try.prog) W 24 9 A ts.length cp 0 0 Try.underlying24
  cases A with
  | none =>
    have HT := Lib.hid (H4.out rfl).1
    go_enter Try.func84, Try.ntmps84
    go_wp2_with fail
    go_ret
    exact ⟨_, rfl, by rw [HT.out]; exact World.ownsRow_nil _ _ _ _, Below.refl _ _⟩
  | some a =>
    go_enter Try.func84, Try.ntmps84
    go_wp2_with (at_builtin; refine wpList_append_any _ rfl _ _ 24 rfl w.heap.size 9 i0 (.string ⟨#[]⟩) 1 16 Try.underlying24 HI.out HI0.out HI1.out HI2.out rfl (by decide) (.slice (some ⟨w.heap.size, 0, none⟩) 0 0) 0 [] (by rfl) (World.ownsRow_made w #[] 0 (Nat.le_refl _) (by unfold maxLen; omega) rfl) (.slice (some a) ts.length cp) ts.length (strs ts) (by rfl) (HR.out _ (alloc_below _ _)) (strs_oneCell _) (by unfold maxLen; omega) (by omega) (by simp) ?_; intro v' w5 hown5 hgrow5)
    have HO : Hid (w5.ownsRow w.heap.size 9 1 v' ts.length (strs ts)) := by show World.ownsRow _ _ _ _ _ _ _; simpa using hown5
    have HB := Lib.hid (((Below.refl w.heap.size w).alloc (Nat.le_refl _) (.cells #[] 9)).grown hgrow5 (by simp) (fun k hk => by simp [Value.ownBlock] at hk; omega))
    clear hown5 hgrow5
    go_wp2_with fail
    go_ret
    exact ⟨_, rfl, HO.out, HB.out⟩
set_option maxHeartbeats 2000000 in
set_option maxRecDepth 100000 in
/-- Insert of one text into a row of one's own. -/
theorem insText_any (v : Value) (ts : List (List UInt8)) (x : List UInt8) (base i vb : Nat) (w : World) (ho : w.ownsRow base 9 1 v ts.length (strs ts)) (hx : w.heap[vb]? = some (.cells #[.string ⟨x.toArray⟩] 9 (0, 0))) (hvb : ∀ k, v.ownBlock = some k → k ≠ vb)
    (hi : i ≤ ts.length) (hn : ts.length ≤ 1000000) (hb : base ≤ w.heap.size) :
    Calls Try.prog 138 #[v, .int .i64 i, .slice (some ⟨vb, 0, none⟩) 1 1] w fun e w' => ∃ v', e = .returned v' ∧ w'.ownsRow base 9 1 v' (ts.length + 1) (strs (ts.take i ++ x :: ts.drop i)) ∧ w.grownBy w' v.ownBlock := by
  obtain ⟨i0, hif, hz0, hz1, hz2⟩ := info_parts Try.infoStrM
  have HI := Lib.hid hif
  have HI0 := Lib.hid hz0
  have HI1 := Lib.hid hz1
  have HI2 := Lib.hid hz2
  clear hif hz0 hz1 hz2
  have HX := Lib.hid hx
  have HO := Lib.hid ho
  have hxs : Hid (strs (ts.take i ++ x :: ts.drop i) = (strs ts).take i ++ .string ⟨x.toArray⟩ :: (strs ts).drop i) := by show _ = _; simp [strs]
  rw [hxs.out]
  have hcx : ∀ j u, [Value.string ⟨x.toArray⟩][j]? = some u → w.cell? ((⟨vb, 0, none⟩ : Addr).add j) = some u := by
    intro j u hu
    cases j with
    | zero =>
      have : Value.string ⟨x.toArray⟩ = u := by simpa using hu
      subst this
      show w.cell? ⟨vb, 0, none⟩ = _
      rw [blk_cell hx]; rfl
    | succ j => simp at hu
  have HCX := Lib.hid hcx
  clear hcx
  rcases Nat.lt_or_ge i ts.length with hlt | hge
  · obtain ⟨g, cp, hv, hbg, hcp, hcm, hcells⟩ := own_open ho (by omega)
    subst hv
    obtain ⟨cur, hg, _, _, _, hcl, hct, hsl⟩ := own_cur ho
    have hgv : g ≠ vb := hvb g rfl
    unfold maxLen at hcm
    obtain ⟨n, hn'⟩ : ∃ n, n = ts.length := ⟨_, rfl⟩
    have hxl : (strs ts).length = n := by simp [strs, hn']
    rw [← hn'] at hcp ho hlt hct hsl hn HO
    rw [← hn']
    clear hn'
    have hone := strs_oneCell ts
    generalize strs ts = xs at *
    have hdl : (xs.drop i).length = n - i := by rw [List.length_drop, hxl]
    have hz1 : ¬ ((1 : Int) = 0) := by omega
    have hz2 : ¬ ((i : Int) = (n : Int)) := by omega
    have hw1 : IntKind.i64.wrap ((i : Int) + 1) = (i : Int) + 1 := by rw [IntKind.wrap_i64]; omega
    have hb1 : (0 : Int) ≤ (i : Int) + 1 := by omega
    have htn : ((i : Int) + 1).toNat = i + 1 := by omega
    have hb3 : (i : Int) ≤ (n : Int) + 1 := by omega
    have hb4 : ¬ (cp = i) := by omega
    have hin : i ≤ n := by omega
    have hgl : g < w.heap.size := blk_lt hg
    have hvl : vb < w.heap.size := blk_lt HX.out
    have hcg : ∀ j, j < cp → (w.cell? ⟨g, j, none⟩).isSome = true := fun j hj => by
      rw [blk_cell hg, List.getElem?_toArray, List.getElem?_eq_getElem (by omega)]; rfl
    have hfg : ∀ j, w.frozen? ⟨g, j, none⟩ = false := fun j => blk_frozen hg j
    by_cases hroom : n + 1 ≤ cp
    · have hb2 : ¬ (cp = i + 1) := by omega
      have hov : ∀ lb cb, (callFunc 184 #[.slice (some ⟨vb, 0, none⟩) 1 1, .slice (some ⟨g, i + 1, none⟩) lb cb]).run Try.prog w = .ok (.value (.bool false)) w := fun lb cb => by
        rw [run_callFunc_extern Try.func184 (by kernel_rfl) (by kernel_rfl) (by kernel_rfl) (e := Extern.SlicesOverlaps.overlaps #[24, 24] #[4]) (by kernel_rfl),
          Lib.run_overlaps_apart w 24 4 9 Try.underlying24 1 (fun w => by kernel_rfl) ⟨vb, 0, none⟩ ⟨g, i + 1, none⟩ 1 1 lb cb (by simpa using Ne.symm hgv) 9 9 1 cp (by unfold World.shape?; simp only [HX.out]; rfl) (by unfold World.shape?; simp only [hg]; simp [hcl]) (by omega) (blk_frozen HX.out 0) (blk_frozen HX.out 1)]
        rfl
      have hcp1 : ∀ ty dc sc, (Builtin.copy_ #[24, 24] ty #[.slice (some ⟨g, i + 1, none⟩) (n - i) dc, .slice (some ⟨g, i, none⟩) (n + 1 - i) sc]).run Try.prog w.drew = .ok (goInt (xs.drop i).length) (w.drew.setCells g (i + 1) (xs.drop i)) := fun ty dc sc =>
        run_copy_cells w.drew _ _ ty 9 g (i + 1) (n - i) dc ⟨g, i, none⟩ (n + 1 - i) sc (xs.drop i) Try.underlying24 Try.sizeStr (by rw [hdl]; simp only [Nat.min_def]; split <;> omega)
          (fun j v hj => by rw [Addr.add_lit]; exact hcells (i + j) v (by rwa [List.getElem?_drop] at hj))
          (fun j hj => by exact hcg _ (by omega)) (fun j hj => by exact hfg _) (fun v hv => hone v (List.mem_of_mem_drop hv))
      obtain ⟨W1, hW1⟩ : ∃ W1, W1 = w.drew.setCells g (i + 1) (xs.drop i) := ⟨_, rfl⟩
      have hg1 : W1.heap[g]? = some (.cells (spl cur (i + 1) (xs.drop i)).toArray 9 (0, 0)) := by rw [hW1]; exact heap_setCells g _ _ _ _ _ hg (by omega)
      have hgr1 : w.grownBy W1 (some g) := by rw [hW1]; exact grown_drew (grown_setCells g _ _ _)
      have hl1 : (spl cur (i + 1) (xs.drop i)).length = cp := by rw [spl_length _ _ _ (by omega)]; exact hcl
      have hx1 : W1.heap[vb]? = some (.cells #[.string ⟨x.toArray⟩] 9 (0, 0)) := (hgr1.block vb hvl (by intro h; injection h with h; exact hgv h.symm)).trans HX.out
      have hcp2 : ∀ ty dc, (Builtin.copy_ #[24, 24] ty #[.slice (some ⟨g, i, none⟩) (n + 1 - i) dc, .slice (some ⟨vb, 0, none⟩) 1 1]).run Try.prog W1 = .ok (goInt 1) (W1.setCells g i [.string ⟨x.toArray⟩]) := fun ty dc =>
        run_copy_cells W1 _ _ ty 9 g i (n + 1 - i) dc ⟨vb, 0, none⟩ 1 1 [.string ⟨x.toArray⟩] Try.underlying24 Try.sizeStr (by simp only [Nat.min_def, List.length_singleton]; split <;> omega)
          (fun j u hu => by
            cases j with
            | zero => have : Value.string ⟨x.toArray⟩ = u := by simpa using hu
                      subst this
                      show W1.cell? ⟨vb, 0, none⟩ = _
                      rw [blk_cell hx1]; rfl
            | succ j => simp at hu)
          (fun j hj => by rw [blk_cell hg1, List.getElem?_toArray, List.getElem?_eq_getElem (by simp at hj; omega)]; rfl) (fun j hj => blk_frozen hg1 _) (one_str _)
      obtain ⟨W2, hW2⟩ : ∃ W2, W2 = W1.setCells g i [.string ⟨x.toArray⟩] := ⟨_, rfl⟩
      have hg2 : W2.heap[g]? = some (.cells (spl (spl cur (i + 1) (xs.drop i)) i [.string ⟨x.toArray⟩]).toArray 9 (0, 0)) := by rw [hW2]; exact heap_setCells g _ _ _ _ _ hg1 (by simp; omega)
      have hgr2 : W1.grownBy W2 (some g) := by rw [hW2]; exact grown_setCells g _ _ _
      have HG := Lib.hid (show w.grownBy W2 (some g) from grown_trans hgr1 hgr2)
      have HO2 := Lib.hid (own_of_cur (n := n + 1) (cp := cp) hg2 hbg hroom (by unfold maxLen; omega) (by rw [spl_length _ _ _ (by simp; omega)]; exact hl1) (shift_one cur xs _ n i hct (by omega) hlt))
      rw [← hW1] at hcp1
      rw [← hW2] at hcp2
      have hrm : ¬ ((cp : Int) < (n : Int) + 1) := by omega
      clear hW1 hW2 hg1 hg2 hgr1 hgr2 hx1 hl1 hcg hfg hcells ho HO hx hvb hg hct hsl hcl hone hxl hxs
      go_enter Try.func138, Try.ntmps138
      go_wp2_with (simp only [hov])
      go_region_law (refine step_copy_runI rfl _ _ 24 24 rfl _ _ (by simp [Act.eval, Act.put]) (by simp [Act.eval, Act.put]) (hcp1 _ _ _) ?_)
      go_wp2_with (at_builtin; refine wpList_copy_runI _ rfl _ _ 24 24 rfl _ _ rfl rfl (hcp2 _ _) ?_)
      go_ret
      exact ⟨_, rfl, HO2.out, HG.out⟩
    · have hce : cp = n := by omega
      subst hce
      have hrm : (cp : Int) < (cp : Int) + 1 := by omega
      have hkk : (cp : Int) + 1 - (i : Int) = ((cp + 1 - i : Nat) : Int) := by omega
      have hik : i + (cp + 1 - i) = cp + 1 := by omega
      have hN0 : w.heap.size ≠ g := by omega
      have hold : (Builtin.firstCells i0.size i (.slice (some ⟨g, 0, none⟩) i cp)).run Try.prog w.drew = .ok (xs.take i).toArray w.drew := by
        rw [HI1.out]
        exact run_firstCells_some w.drew 1 i ⟨g, 0, none⟩ i cp (xs.take i) (by rw [List.length_take]; omega) (fun j v hj => by
          rw [Addr.add_lit, Nat.zero_add]
          rw [List.getElem?_take] at hj
          split at hj
          · exact hcells j v hj
          · cases hj)
      have hrz : ∀ ty, (Builtin.append_ #[24, 3] ty #[.slice (some ⟨g, 0, none⟩) i cp, .int .i64 ((cp : Int) + 1 - (i : Int))]).run Try.prog w =
          .ok (.slice (some ⟨w.heap.size, 0, none⟩) (cp + 1) (grownCap w (cp + 1) cp 9)) (w.drew.alloc (.cells ((xs.take i).toArray ++ Builtin.zeroCells (Value.string ⟨#[]⟩).cells (cp + 1 - i) ++ Builtin.zeroCells (Value.string ⟨#[]⟩).cells (grownCap w (cp + 1) cp 9 - (cp + 1))) 9)) := fun ty => by
        have h := Lib.run_append_grow_zeros w 24 3 ty 9 i0 _ .i64 .i64 Try.underlying24 Try.underlying3 HI.out HI0.out (some ⟨g, 0, none⟩) i cp (xs.take i) hold (cp + 1 - i) (by omega) (by rw [HI1.out]; omega) (by omega) (by omega) (by rw [HI2.out]; omega) (by rw [HI2.out, hik]; exact growslice_fits (by omega) (by omega))
        rw [hik] at h
        rw [hkk]
        exact h
      obtain ⟨G, hG⟩ : ∃ G, G = grownCap w (cp + 1) cp 9 := ⟨_, rfl⟩
      have hGn : cp + 1 ≤ G := by rw [hG]; exact grownCap_ge w _ _ _
      have hG63 : G ≤ maxLen := by rw [hG]; exact grownCap_le_maxLen w (cp + 1) cp 9 (by unfold maxLen; omega)
      rw [← hG] at hrz
      obtain ⟨ROW, hROW⟩ : ∃ ROW : List Value, ROW = xs.take i ++ List.replicate (cp + 1 - i) (Value.string ⟨#[]⟩) ++ List.replicate (G - (cp + 1)) (Value.string ⟨#[]⟩) := ⟨_, rfl⟩
      have hRA : (xs.take i).toArray ++ Builtin.zeroCells (Value.string ⟨#[]⟩).cells (cp + 1 - i) ++ Builtin.zeroCells (Value.string ⟨#[]⟩).cells (G - (cp + 1)) = ROW.toArray := by
        rw [hROW]
        rw [show (Value.string ⟨#[]⟩).cells = #[Value.string ⟨#[]⟩] from rfl, zero_one, zero_one]
        simp
      rw [hRA] at hrz
      have hRl : ROW.length = G := by rw [hROW]; simp; omega
      obtain ⟨W1, hW1⟩ : ∃ W1, W1 = w.drew.alloc (.cells ROW.toArray 9) := ⟨_, rfl⟩
      rw [← hW1] at hrz
      have hg1 : W1.heap[w.heap.size]? = some (.cells ROW.toArray 9 (0, 0)) := by rw [hW1]; exact heap_alloc_new w.drew _
      have hb1' : Below w.heap.size w W1 := by rw [hW1]; exact (Below.refl _ _).drew.alloc (Nat.le_refl _) _
      have hx1 : W1.heap[vb]? = some (.cells #[.string ⟨x.toArray⟩] 9 (0, 0)) := (hb1'.block vb hvl).trans HX.out
      have hgg1 : W1.heap[g]? = some (.cells cur.toArray 9 (0, 0)) := (hb1'.block g hgl).trans hg
      have hcp2 : ∀ ty dc, (Builtin.copy_ #[24, 24] ty #[.slice (some ⟨w.heap.size, i, none⟩) (cp + 1 - i) dc, .slice (some ⟨vb, 0, none⟩) 1 1]).run Try.prog W1 = .ok (goInt 1) (W1.setCells w.heap.size i [.string ⟨x.toArray⟩]) := fun ty dc =>
        run_copy_cells W1 _ _ ty 9 w.heap.size i (cp + 1 - i) dc ⟨vb, 0, none⟩ 1 1 [.string ⟨x.toArray⟩] Try.underlying24 Try.sizeStr (by simp only [Nat.min_def, List.length_singleton]; split <;> omega)
          (fun j u hu => by
            cases j with
            | zero => have : Value.string ⟨x.toArray⟩ = u := by simpa using hu
                      subst this
                      show W1.cell? ⟨vb, 0, none⟩ = _
                      rw [blk_cell hx1]; rfl
            | succ j => simp at hu)
          (fun j hj => by rw [blk_cell hg1, List.getElem?_toArray, List.getElem?_eq_getElem (by simp at hj; omega)]; rfl) (fun j hj => blk_frozen hg1 _) (one_str _)
      obtain ⟨W2, hW2⟩ : ∃ W2, W2 = W1.setCells w.heap.size i [.string ⟨x.toArray⟩] := ⟨_, rfl⟩
      have hg2 : W2.heap[w.heap.size]? = some (.cells (spl ROW i [.string ⟨x.toArray⟩]).toArray 9 (0, 0)) := by rw [hW2]; exact heap_setCells _ _ _ _ _ _ hg1 (by simp; omega)
      have hgr2 : W1.grownBy W2 (some w.heap.size) := by rw [hW2]; exact grown_setCells _ _ _ _
      have hl2 : (spl ROW i [Value.string ⟨x.toArray⟩]).length = G := by rw [spl_length _ _ _ (by simp; omega)]; exact hRl
      have hgg2 : W2.heap[g]? = some (.cells cur.toArray 9 (0, 0)) := (hgr2.block g (by have := hb1'.size; omega) (by intro h; injection h with h; exact hN0 h.symm)).trans hgg1
      rw [← hW2] at hcp2
      have hcp1 : ∀ ty dc sc, (Builtin.copy_ #[24, 24] ty #[.slice (some ⟨w.heap.size, i + 1, none⟩) (cp - i) dc, .slice (some ⟨g, i, none⟩) (cp - i) sc]).run Try.prog W2.drew = .ok (goInt (xs.drop i).length) (W2.drew.setCells w.heap.size (i + 1) (xs.drop i)) := fun ty dc sc =>
        run_copy_cells W2.drew _ _ ty 9 w.heap.size (i + 1) (cp - i) dc ⟨g, i, none⟩ (cp - i) sc (xs.drop i) Try.underlying24 Try.sizeStr (by rw [hdl]; simp only [Nat.min_def]; split <;> omega)
          (fun j v hj => by
            rw [Addr.add_lit]
            show W2.cell? ⟨g, i + j, none⟩ = some v
            rw [blk_cell hgg2, ← blk_cell hg]
            exact hcells (i + j) v (by rwa [List.getElem?_drop] at hj))
          (fun j hj => by
            show (W2.cell? ⟨w.heap.size, i + 1 + j, none⟩).isSome = true
            rw [blk_cell hg2, List.getElem?_toArray, List.getElem?_eq_getElem (by omega)]; rfl) (fun j hj => blk_frozen hg2 _) (fun v hv => hone v (List.mem_of_mem_drop hv))
      obtain ⟨W3, hW3⟩ : ∃ W3, W3 = W2.drew.setCells w.heap.size (i + 1) (xs.drop i) := ⟨_, rfl⟩
      have hg3 : W3.heap[w.heap.size]? = some (.cells (spl (spl ROW i [.string ⟨x.toArray⟩]) (i + 1) (xs.drop i)).toArray 9 (0, 0)) := by rw [hW3]; exact heap_setCells _ _ _ _ _ _ hg2 (by omega)
      have hgr3 : W2.grownBy W3 (some w.heap.size) := by rw [hW3]; exact grown_drew (grown_setCells _ _ _ _)
      rw [← hW3] at hcp1
      have hbel : Below w.heap.size w W3 := ((hb1'.grown hgr2 hb1'.size (fun k hk => by injection hk with hk; omega)).grown hgr3 (Nat.le_trans hb1'.size hgr2.size) (fun k hk => by injection hk with hk; omega))
      have HG := Lib.hid (show w.grownBy W3 (Value.slice (some ⟨g, 0, none⟩) cp cp).ownBlock from grown_below _ hbel)
      have hfin : (spl (spl ROW i [.string ⟨x.toArray⟩]) (i + 1) (xs.drop i)).take (cp + 1) = xs.take i ++ .string ⟨x.toArray⟩ :: xs.drop i := by rw [hROW]; exact fill_one xs _ _ _ cp i hxl hlt (by simp)
      have HO2 := Lib.hid (own_of_cur (n := cp + 1) (cp := G) hg3 hb hGn hG63 (by rw [spl_length _ _ _ (by omega)]; exact hl2) hfin)
      have hGi : ¬ (G = i) := by omega
      have hGim : ¬ (G = i + 1) := by omega
      have hG64 : G ≤ 9223372036854775807 := by unfold maxLen at hG63; omega
      clear hW1 hW2 hW3 hg1 hg2 hg3 hgr2 hgr3 hx1 hgg1 hgg2 hl2 hcg hfg hcells ho HO hx hvb hg hct hsl hcl hone hxl hxs hkk hik hold hROW hRA hRl hfin hG hG63 hb1' hbel hroom
      go_enter Try.func138, Try.ntmps138
      go_wp2_with (first
        | (at_builtin; refine Lib.wpList_append_run _ rfl _ _ _ _ rfl _ _ rfl rfl _ _ (hrz _) ?_)
        | (at_builtin; refine wpList_copy_runI _ rfl _ _ 24 24 rfl _ _ rfl rfl (hcp2 _ _) ?_))
      go_region_law (refine step_copy_runI rfl _ _ 24 24 rfl _ _ (by simp [Act.eval, Act.put]) (by simp [Act.eval, Act.put]) (hcp1 _ _ _) ?_)
      go_wp2_with fail
      go_ret
      exact ⟨_, rfl, HO2.out, HG.out⟩
  · obtain rfl : i = ts.length := by omega
    clear hge hi
    have hform := own_form ho
    obtain ⟨bs, cp, rfl, hcp, hcm, _⟩ := hform
    have HS : Hid ((strs ts).take ts.length ++ Value.string ⟨x.toArray⟩ :: (strs ts).drop ts.length = strs ts ++ [.string ⟨x.toArray⟩]) := by show _ = _; rw [List.take_of_length_le (by simp [strs]), List.drop_eq_nil_of_le (by simp [strs])]
    rw [HS.out]
    clear ho hx hvb
    unfold maxLen at hcm
    go_enter Try.func138, Try.ntmps138
    go_wp2_with (at_builtin; refine wpList_append_any _ rfl _ _ 24 rfl base 9 i0 (.string ⟨#[]⟩) 1 16 Try.underlying24 HI.out HI0.out HI1.out HI2.out rfl (by decide) _ _ _ (by rfl) HO.out (.slice (some ⟨vb, 0, none⟩) 1 1) 1 [.string ⟨x.toArray⟩] (by rfl) (.inr ⟨_, _, rfl, rfl, HCX.out⟩) (one_str _) (by unfold maxLen; omega) (by omega) hb ?_; intro v' w5 hown5 hgrow5)
    all_goals go_ret
    all_goals exact ⟨_, rfl, hown5, by cases bs <;> exact hgrow5⟩
end Go.Proofs.Ytienlhnbmobinaa
namespace Go.Proofs.Ytienlhnbmobinaa
open Go.RowKit
set_option linter.unusedVariables false
set_option linter.unusedSimpArgs false
open Go.Lib Go.Sort
set_option maxHeartbeats 2000000 in
set_option maxRecDepth 100000 in
/-- Delete of one text out of a row of one's own. -/
theorem delText_any (v : Value) (ts : List (List UInt8)) (base i : Nat) (w : World) (ho : w.ownsRow base 9 1 v ts.length (strs ts)) (hi : i < ts.length) (hn : ts.length ≤ 1000000) (hb : base ≤ w.heap.size) :
    Calls Try.prog 141 #[v, .int .i64 i, .int .i64 ((i : Int) + 1)] w fun e w' => ∃ v', e = .returned v' ∧ w'.ownsRow base 9 1 v' (ts.length - 1) (strs (ts.take i ++ ts.drop (i + 1))) ∧ w.grownBy w' v.ownBlock := by
  obtain ⟨g, cp, hv, hbg, hcp, hcm, hcells⟩ := own_open ho (by omega)
  subst hv
  obtain ⟨cur, hg, _, _, _, hcl, hct, hsl⟩ := own_cur ho
  have hS : Lib.strsOf (fun j => (⟨(ts.getD j []).toArray⟩ : ByteArray)) ts.length = ts := by
    unfold Lib.strsOf
    apply List.ext_getElem (by simp)
    intro k h1 h2
    simp at h1
    simp [h1]
  have h := Try.slices_Delete_string_cells g 0 ts.length cp i (i + 1) (fun j => ⟨(ts.getD j []).toArray⟩) w hcp (by unfold maxLen at hcm; omega) (by omega) (by omega)
    (fun j hj => by rw [Nat.zero_add]; exact hcells j _ (by rw [strs_get ts j hj, List.getD_eq_getElem?_getD, List.getElem?_eq_getElem hj]; rfl)) (fun j hj => blk_frozen hg _)
  rw [hS] at h
  refine (h.mono ?_)
  rintro e w' ⟨rfl, q, rfl⟩
  have hvs : ((ts.take i ++ ts.drop (i + 1) ++ List.replicate (i + 1 - i) []).map encStr) = strs (ts.take i ++ ts.drop (i + 1)) ++ [.string ⟨#[]⟩] := by
    rw [show i + 1 - i = 1 by omega, List.map_append]
    rfl
  rw [hvs]
  have hlen : (strs (ts.take i ++ ts.drop (i + 1))).length = ts.length - 1 := by simp [strs]; omega
  have hg2 : ((w.drewN q).setCells g 0 (strs (ts.take i ++ ts.drop (i + 1)) ++ [.string ⟨#[]⟩])).heap[g]? = some (.cells (spl cur 0 (strs (ts.take i ++ ts.drop (i + 1)) ++ [.string ⟨#[]⟩])).toArray 9 (0, 0)) := heap_setCells g _ _ _ _ _ hg (by rw [List.length_append, hlen]; simp; omega)
  refine ⟨_, rfl, ?_, ?_⟩
  · rw [show ts.length - (i + 1 - i) = ts.length - 1 by omega]
    refine own_of_cur hg2 hbg (by omega) hcm (by rw [spl_length _ _ _ (by rw [List.length_append, hlen]; simp; omega)]; exact hcl) ?_
    unfold spl
    rw [List.take_zero, List.nil_append, List.append_assoc, List.take_left' hlen]
  · have := grown_setCells g (strs (ts.take i ++ ts.drop (i + 1)) ++ [.string ⟨#[]⟩]) 0 (w.drewN q)
    exact ⟨this.os, this.tape, this.output, this.size, this.block⟩
end Go.Proofs.Ytienlhnbmobinaa
end

section
/- a page stored whole -/
namespace Go.Proofs.Ytienlhnbmobinaa
open Go.RowKit
set_option linter.unusedVariables false
set_option linter.unusedSimpArgs false
theorem setRow_pg {w : World} {g kind level id lsn next : Nat} {sv : Value} (h : PgBox w g kind level id lsn next sv) (kind' level' id' lsn' next' : Nat) (sv' : Value) : PgBox (w.setRow g #[.int .u8 kind', .int .u8 level', .int .u32 id', .int .u64 lsn', .int .u32 next', sv']) g kind' level' id' lsn' next' sv' :=
  setRow_heap w g _ _ _ _ h
theorem setRow_kept (w : World) (g : Nat) (cs : Array Value) : OthersKept w (w.setRow g cs) (fun x => x = g) :=
  ⟨rfl, rfl, rfl, by simp, fun k _ hn => setRow_other w g k cs hn⟩
set_option maxRecDepth 100000 in
/-- A page stored whole into its box. -/
theorem wpList_store_pg {ops : Array Oper} {rest : List Oper} {o : Oper} {a : Act} {w : World} {Q : Exit → Act → World → Prop} (hgd : o.guard = none) (x y : Operand) (ho : o.op = .store 26 x y)
    {g kind level id lsn next : Nat} {sv : Value} (h : PgBox w g kind level id lsn next sv) (kind' level' id' lsn' next' : Nat) (b : Option Addr) (n c : Nat)
    (hx : a.eval x = .pointer (some ⟨g, 0, none⟩)) (hy : a.eval y = .agg #[.int .u8 kind', .int .u8 level', .int .u32 id', .int .u64 lsn', .int .u32 next', .slice b n c])
    (hk : ∀ W, PgBox W g kind' level' id' lsn' next' (.slice b n c) → OthersKept w W (fun x => x = g) → wpList Try.prog ops Q rest (a.put o.dst undef) W) : wpList Try.prog ops Q (o :: rest) a w :=
  wpList_store_row hgd 26 x y ho g _ hx hy 26 _ h (by kernel_rfl) rfl (by simp [Value.oneCell']) (hk _ (setRow_pg h kind' level' id' lsn' next' (.slice b n c)) (setRow_kept _ _ _))
end Go.Proofs.Ytienlhnbmobinaa
end

section
/- chapter 22: a row's cells in a block; stored whole, handed back -/
namespace Go.Proofs.Ytienlhnbmobinaa
open Go.RowKit
set_option linter.unusedVariables false
set_option linter.unusedSimpArgs false
/-- A row's cells in a block. -/
def SgBox (w : World) (g : Nat) (s : Sg) : Prop := w.heap[g]? = some (.cells #[.int .u64 s.tx, .int .u8 s.st, .int .u64 s.num, .int .u32 s.fp, .int .u32 s.lp, .int .u32 s.hp, .int .u16 s.hs] 83 (0, 0))
theorem SgBox.new (w : World) (s : Sg) : SgBox (w.alloc (.cells #[.int .u64 s.tx, .int .u8 s.st, .int .u64 s.num, .int .u32 s.fp, .int .u32 s.lp, .int .u32 s.hp, .int .u16 s.hs] 83)) w.heap.size s := heap_alloc_new w _
section
variable {w w' : World} {g : Nat} {s : Sg}
theorem SgBox.lt (h : SgBox w g s) : g < w.heap.size := blk_lt h
theorem SgBox.below (h : SgBox w g s) (hb : Below w.heap.size w w') : SgBox w' g s := (hb.block _ (blk_lt h)).trans h
theorem SgBox.keep (h : SgBox w g s) (o : Obj) : SgBox (w.alloc o) g s := heap_keep h
theorem SgBox.cells (h : SgBox w g s) : g < w.heap.size ∧ w.cell? ⟨g, 0, none⟩ = some (.int .u64 s.tx) ∧ w.cell? ⟨g, 1, none⟩ = some (.int .u8 s.st) ∧ w.cell? ⟨g, 2, none⟩ = some (.int .u64 s.num) ∧ w.cell? ⟨g, 3, none⟩ = some (.int .u32 s.fp) ∧ w.cell? ⟨g, 4, none⟩ = some (.int .u32 s.lp) ∧ w.cell? ⟨g, 5, none⟩ = some (.int .u32 s.hp) ∧ w.cell? ⟨g, 6, none⟩ = some (.int .u16 s.hs) := by
  unfold SgBox at h
  exact ⟨blk_lt h, by rw [blk_cell h]; rfl, by rw [blk_cell h]; rfl, by rw [blk_cell h]; rfl, by rw [blk_cell h]; rfl, by rw [blk_cell h]; rfl, by rw [blk_cell h]; rfl, by rw [blk_cell h]; rfl⟩
theorem SgBox.fr (h : SgBox w g s) : w.frozen? ⟨g, 0, none⟩ = false ∧ w.frozen? ⟨g, 1, none⟩ = false ∧ w.frozen? ⟨g, 2, none⟩ = false ∧ w.frozen? ⟨g, 3, none⟩ = false ∧ w.frozen? ⟨g, 4, none⟩ = false ∧ w.frozen? ⟨g, 5, none⟩ = false ∧ w.frozen? ⟨g, 6, none⟩ = false :=
  ⟨blk_frozen h _, blk_frozen h _, blk_frozen h _, blk_frozen h _, blk_frozen h _, blk_frozen h _, blk_frozen h _⟩
theorem SgBox.kept {q : Nat → Prop} (h : SgBox w g s) (hk : OthersKept w w' q) (hq : ¬ q g) : SgBox w' g s := hk.heap h hq
end
set_option maxRecDepth 100000 in
/-- A row stored whole into its box. -/
theorem wpList_store_sg {ops : Array Oper} {rest : List Oper} {o : Oper} {a : Act} {w : World} {Q : Exit → Act → World → Prop} (hgd : o.guard = none) (x y : Operand) (ho : o.op = .store 83 x y)
    {g : Nat} {s : Sg} (h : SgBox w g s) (d : Sg)
    (hx : a.eval x = .pointer (some ⟨g, 0, none⟩)) (hy : a.eval y = .agg #[.int .u64 d.tx, .int .u8 d.st, .int .u64 d.num, .int .u32 d.fp, .int .u32 d.lp, .int .u32 d.hp, .int .u16 d.hs])
    (hk : ∀ W, SgBox W g d → OthersKept w W (fun x => x = g) → wpList Try.prog ops Q rest (a.put o.dst undef) W) : wpList Try.prog ops Q (o :: rest) a w :=
  wpList_store_row hgd 83 x y ho g _ hx hy 83 _ h (by kernel_rfl) rfl (by simp [Value.oneCell']) (hk _ (setRow_heap w g _ _ _ _ h) (setRow_kept _ _ _))
theorem results_sg {fn : Func} {p u : Tmp} (h : fn.results = #[.cell p 83, .tmp u]) (tmps : Array Value) (w : World) {g : Nat} {s : Sg} (hp : tmps.getD p undef = .pointer (some ⟨g, 0, none⟩)) (hb : SgBox w g s) :
    (results fn tmps).run Try.prog w = .ok (.tuple #[sgV s, tmps.getD u undef]) w := by
  unfold SgBox at hb
  rw [results_cell_tmp h, hp]
  simp [asAddr, run_loadVar_row w g 83 83 _ (0, 0) _ hb Try.underlying83 rfl (by kernel_rfl), Result.andThen, sgV]
end Go.Proofs.Ytienlhnbmobinaa
end

section
/- chapter 01: words, in lists -/
namespace Go.Proofs.Ytienlhnbmobinaa
open Go.RowKit
set_option linter.unusedVariables false
set_option linter.unusedSimpArgs false
theorem cut_text (l : List UInt8) (a n : Nat) (h : a + n ≤ l.length) : (⟨l.toArray⟩ : ByteArray).extract a (a + n) = ⟨(rdText l a n).toArray⟩ := by
  unfold rdText
  rw [if_pos h]
  apply bytes_ext
  rw [ByteArray.data_extract]
  simp
theorem wCut (l : List UInt8) (a n : Nat) (w : World) (hs : l.length ≤ 1000000) (ha : a ≤ 2000000) (hn : n ≤ 2000000) :
    Calls Try.prog 108 #[.string ⟨l.toArray⟩, .int .i64 a, .int .i64 n] w fun e w' => e = .returned (.tuple #[.string ⟨(rdText l a n).toArray⟩, .bool (decide (a + n ≤ l.length))]) ∧ w = w' := by
  have hsz : (⟨l.toArray⟩ : ByteArray).size = l.length := by show l.toArray.size = l.length; simp
  by_cases h : a + n ≤ l.length
  · rw [decide_eq_true h, ← cut_text l a n h]
    exact cut_yes _ a n w (by unfold maxLen; omega) (by omega)
  · have : rdText l a n = [] := by unfold rdText; rw [if_neg h]
    rw [decide_eq_false h, this]
    exact cut_no _ a n w (by unfold maxLen; omega) (Or.inr (Or.inr (by omega))) (by omega) (by omega)
theorem wGet (l : List UInt8) (a k : Nat) (w : World) (hs : l.length ≤ 1000000) (ha : a ≤ 2000000) (h1 : 1 ≤ k) (h8 : k ≤ 8) :
    Calls Try.prog 121 #[.string ⟨l.toArray⟩, .int .i64 a, .int .i64 k] w fun e w' => e = .returned (.tuple #[.int .u64 (rdNum l a k), .bool (decide (a + k ≤ l.length))]) ∧ Below w.heap.size w w' := by
  have hsz : (⟨l.toArray⟩ : ByteArray).size = l.length := by show l.toArray.size = l.length; simp
  by_cases h : a + k ≤ l.length
  · have hn : rdNum l a k = un ((l.drop a).take k) := by unfold rdNum; rw [if_pos h]
    rw [decide_eq_true h, hn]
    exact get_yes ⟨l.toArray⟩ a k w (by unfold maxLen; omega) (by omega) h1 h8
  · have hn : rdNum l a k = 0 := by unfold rdNum; rw [if_neg h]
    rw [decide_eq_false h, hn]
    exact (get_no ⟨l.toArray⟩ a k w (by unfold maxLen; omega) (Or.inr (Or.inr (by omega))) (by omega) (by omega)).mono fun _ _ ⟨h1, h2⟩ => ⟨h1, h2 ▸ Below.refl _ _⟩
theorem put_no1 (n : Nat) (w : World) (hn : 256 ≤ n) (h64 : n < 256 ^ 8) :
    Calls Try.prog 118 #[.int .u64 n, .int .i64 1] w fun e w' => e = .returned (.tuple #[.string ⟨#[]⟩, .bool false]) ∧ w = w' := by
  simp only [Nat.reducePow] at h64
  have hx : ((n : Int) / 256 != 0) = true := by simp; omega
  go_enter Try.func118, Try.ntmps118
  go_wp2_with fail
  go_ret2
  exact ⟨rfl, rfl⟩
theorem put_no2 (n : Nat) (w : World) (hn : 65536 ≤ n) (h64 : n < 256 ^ 8) :
    Calls Try.prog 118 #[.int .u64 n, .int .i64 2] w fun e w' => e = .returned (.tuple #[.string ⟨#[]⟩, .bool false]) ∧ w = w' := by
  simp only [Nat.reducePow] at h64
  have hx : ((n : Int) / 65536 != 0) = true := by simp; omega
  go_enter Try.func118, Try.ntmps118
  go_wp2_with fail
  go_ret2
  exact ⟨rfl, rfl⟩
/-- A number's bytes; none, if it has more. -/
def putN (k n : Nat) : List UInt8 := if n < 256 ^ k then be k n else []
theorem wPut1 (n : Nat) (w : World) (h64 : n < 256 ^ 8) :
    Calls Try.prog 118 #[.int .u64 n, .int .i64 1] w fun e w' => e = .returned (.tuple #[.string ⟨(putN 1 n).toArray⟩, .bool (decide (n < 256))]) ∧ Below w.heap.size w w' := by
  unfold putN
  by_cases h : n < 256
  · rw [decide_eq_true h, if_pos (by simpa using h)]
    exact put_1 n w (by simpa using h)
  · rw [decide_eq_false h, if_neg (by simpa using h)]
    exact (put_no1 n w (by omega) h64).mono fun _ _ ⟨h1, h2⟩ => ⟨h1, h2 ▸ Below.refl _ _⟩
theorem wPut2 (n : Nat) (w : World) (h64 : n < 256 ^ 8) :
    Calls Try.prog 118 #[.int .u64 n, .int .i64 2] w fun e w' => e = .returned (.tuple #[.string ⟨(putN 2 n).toArray⟩, .bool (decide (n < 65536))]) ∧ Below w.heap.size w w' := by
  unfold putN
  by_cases h : n < 65536
  · rw [decide_eq_true h, if_pos (by simpa using h)]
    exact put_2 n w (by simpa using h)
  · rw [decide_eq_false h, if_neg (by simpa using h)]
    exact (put_no2 n w (by omega) h64).mono fun _ _ ⟨h1, h2⟩ => ⟨h1, h2 ▸ Below.refl _ _⟩
end Go.Proofs.Ytienlhnbmobinaa
end

section
/- chapter 22: a row's bytes (seg.Encode, the reference's) -/
namespace Go.Proofs.Ytienlhnbmobinaa
open Go.RowKit
set_option linter.unusedVariables false
set_option linter.unusedSimpArgs false
/-- The frame of seg.Encode: block B has the row, B + 1 what is written. -/
structure SEn (B : Nat) (w0 : World) (s : Sg) (t : ByteArray) (w : World) : Prop where
  below : Below B w0 w
  box : w.heap[B]? = some (.cells #[.int .u64 s.tx, .int .u8 s.st, .int .u64 s.num, .int .u32 s.fp, .int .u32 s.lp, .int .u32 s.hp, .int .u16 s.hs] 83 (0, 0))
  out : w.heap[B + 1]? = some (.cells #[.string t] 9 (0, 0))
theorem SEn.step {B : Nat} {w0 w wz : World} {s : Sg} {t : ByteArray} (h : SEn B w0 s t w) (hb : Below w.heap.size w wz) (t' : ByteArray) : SEn B w0 s t' (wz.setCell ⟨B + 1, 0, none⟩ (.string t')) := by
  have hlt := blk_lt h.out
  exact ⟨(h.below.trans (hb.mono (by omega))).setCell (by show B ≤ B + 1; omega) _, set_keep ((hb.block _ (blk_lt h.box)).trans h.box) (by omega), blk_set ((hb.block _ hlt).trans h.out) 0 _⟩
theorem SEn.keep {B : Nat} {w0 w wz : World} {s : Sg} {t : ByteArray} (h : SEn B w0 s t w) (hb : Below w.heap.size w wz) : SEn B w0 s t wz :=
  ⟨h.below.trans (hb.mono (Nat.le_of_lt (blk_lt h.box))), (hb.block _ (blk_lt h.box)).trans h.box, (hb.block _ (blk_lt h.out)).trans h.out⟩
theorem SEn.new (w : World) (s : Sg) : SEn w.heap.size w s ⟨#[]⟩ ((w.alloc (.cells #[.int .u64 s.tx, .int .u8 s.st, .int .u64 s.num, .int .u32 s.fp, .int .u32 s.lp, .int .u32 s.hp, .int .u16 s.hs] 83)).alloc (.cells #[.string ⟨#[]⟩] 9)) := by
  have z1 : (w.alloc (.cells #[.int .u64 s.tx, .int .u8 s.st, .int .u64 s.num, .int .u32 s.fp, .int .u32 s.lp, .int .u32 s.hp, .int .u16 s.hs] 83)).heap.size = w.heap.size + 1 := by simp
  refine ⟨((Below.refl _ _).alloc (Nat.le_refl _) _).alloc (by simp) _, heap_keep (heap_alloc_new w _), ?_⟩
  have := heap_alloc_new (w.alloc (.cells #[.int .u64 s.tx, .int .u8 s.st, .int .u64 s.num, .int .u32 s.fp, .int .u32 s.lp, .int .u32 s.hp, .int .u16 s.hs] 83)) (.cells #[.string ⟨#[]⟩] 9)
  rw [z1] at this
  exact this
set_option maxHeartbeats 1000000 in
set_option maxRecDepth 100000 in
theorem segPutc (B n k : Nat) (s : Sg) (t x : ByteArray) (w0 w : World) (h : SEn B w0 s t w) (ht : t.size ≤ 100) (hx : x.size ≤ 8)
    (P : ∀ W, Calls Try.prog 118 #[.int .u64 n, .int .i64 k] W fun e w' => e = .returned (.tuple #[.string x, .bool true]) ∧ Below W.heap.size W w') :
    Calls Try.prog 117 #[.int .u64 n, .int .i64 k, .pointer (some ⟨B + 1, 0, none⟩)] w fun e w' => e = .returned (.tuple #[]) ∧ SEn B w0 s (t ++ x) w' := by
  have P0 := Lib.hid P
  have H := Lib.hid h
  clear P h
  go_enter Try.func117, Try.ntmps117
  go_wp2_with fail
  refine (P0.out _).mono ?_
  rintro e w1 ⟨rfl, hb⟩
  have H1 := H.out.keep hb
  have c1 := blk_cell H1.out 0
  have f1 := blk_frozen H1.out 0
  have Hb := Lib.hid hb
  clear hb H1 P0
  go_wp2_with fail
  go_end0
  exact ⟨rfl, H.out.step Hb.out _⟩
set_option maxHeartbeats 4000000 in
set_option maxRecDepth 100000 in
theorem segEncode_any (s : Sg) (w : World) (hw : s.wf) : Calls Try.prog 58 #[sgV s] w fun e w' => e = .returned (.tuple #[.string ⟨s.out.1.toArray⟩, .int .i64 s.out.2]) ∧ Below w.heap.size w w' := by
  have M := Lib.hid fun W => segMay_any s W
  unfold sgV at *
  have HE := Lib.hid (SEn.new w s)
  obtain ⟨h0, h1, h2, h3, h4, h5, h6⟩ := hw
  have N0 := fun W => put_8 s.tx W h0
  have z0 : (⟨(be 8 s.tx).toArray⟩ : ByteArray).size ≤ 8 := by simp [ByteArray.size, be_length]
  have N1 := fun W => put_1 s.st W (by simpa using h1)
  have z1 : (⟨(be 1 s.st).toArray⟩ : ByteArray).size ≤ 1 := by simp [ByteArray.size, be_length]
  have N2 := fun W => put_8 s.num W h2
  have z2 : (⟨(be 8 s.num).toArray⟩ : ByteArray).size ≤ 8 := by simp [ByteArray.size, be_length]
  have N3 := fun W => put_4 s.fp W h3
  have z3 : (⟨(be 4 s.fp).toArray⟩ : ByteArray).size ≤ 4 := by simp [ByteArray.size, be_length]
  have N4 := fun W => put_4 s.lp W h4
  have z4 : (⟨(be 4 s.lp).toArray⟩ : ByteArray).size ≤ 4 := by simp [ByteArray.size, be_length]
  have N5 := fun W => put_4 s.hp W h5
  have z5 : (⟨(be 4 s.hp).toArray⟩ : ByteArray).size ≤ 4 := by simp [ByteArray.size, be_length]
  have N6 := fun W => put_2 s.hs W h6
  have z6 : (⟨(be 2 s.hs).toArray⟩ : ByteArray).size ≤ 2 := by simp [ByteArray.size, be_length]
  have hfin : Hid ((((((((⟨#[]⟩ : ByteArray) ++ ⟨(be 8 s.tx).toArray⟩) ++ ⟨(be 1 s.st).toArray⟩) ++ ⟨(be 8 s.num).toArray⟩) ++ ⟨(be 4 s.fp).toArray⟩) ++ ⟨(be 4 s.lp).toArray⟩) ++ ⟨(be 4 s.hp).toArray⟩) ++ ⟨(be 2 s.hs).toArray⟩ = (⟨s.enc.toArray⟩ : ByteArray)) := by
    apply bytes_ext
    simp only [ByteArray.data_append, Array.toList_append, Sg.enc]
    simp
  generalize (⟨(be 8 s.tx).toArray⟩ : ByteArray) = x0 at N0 z0 hfin
  generalize (⟨(be 1 s.st).toArray⟩ : ByteArray) = x1 at N1 z1 hfin
  generalize (⟨(be 8 s.num).toArray⟩ : ByteArray) = x2 at N2 z2 hfin
  generalize (⟨(be 4 s.fp).toArray⟩ : ByteArray) = x3 at N3 z3 hfin
  generalize (⟨(be 4 s.lp).toArray⟩ : ByteArray) = x4 at N4 z4 hfin
  generalize (⟨(be 4 s.hp).toArray⟩ : ByteArray) = x5 at N5 z5 hfin
  generalize (⟨(be 2 s.hs).toArray⟩ : ByteArray) = x6 at N6 z6 hfin
  have C0 := Lib.hid fun (t : ByteArray) (W : World) (h : SEn w.heap.size w s t W) (ht : t.size ≤ 100) => segPutc w.heap.size s.tx 8 s t x0 w W h ht (by omega) N0
  have C1 := Lib.hid fun (t : ByteArray) (W : World) (h : SEn w.heap.size w s t W) (ht : t.size ≤ 100) => segPutc w.heap.size s.st 1 s t x1 w W h ht (by omega) N1
  have C2 := Lib.hid fun (t : ByteArray) (W : World) (h : SEn w.heap.size w s t W) (ht : t.size ≤ 100) => segPutc w.heap.size s.num 8 s t x2 w W h ht (by omega) N2
  have C3 := Lib.hid fun (t : ByteArray) (W : World) (h : SEn w.heap.size w s t W) (ht : t.size ≤ 100) => segPutc w.heap.size s.fp 4 s t x3 w W h ht (by omega) N3
  have C4 := Lib.hid fun (t : ByteArray) (W : World) (h : SEn w.heap.size w s t W) (ht : t.size ≤ 100) => segPutc w.heap.size s.lp 4 s t x4 w W h ht (by omega) N4
  have C5 := Lib.hid fun (t : ByteArray) (W : World) (h : SEn w.heap.size w s t W) (ht : t.size ≤ 100) => segPutc w.heap.size s.hp 4 s t x5 w W h ht (by omega) N5
  have C6 := Lib.hid fun (t : ByteArray) (W : World) (h : SEn w.heap.size w s t W) (ht : t.size ≤ 100) => segPutc w.heap.size s.hs 2 s t x6 w W h ht (by omega) N6
  clear N0 N1 N2 N3 N4 N5 N6
  have HO : Hid (s.out = if s.may then (s.enc, 0) else ([], 2)) := rfl
  generalize s.out = O at *
  have hl0 : s.tx < 18446744073709551616 := h0
  have hl2 : s.num < 18446744073709551616 := h2
  have hl3 : s.fp < 4294967296 := h3
  have hl4 : s.lp < 4294967296 := h4
  have hl5 : s.hp < 4294967296 := h5
  have hl6 : s.hs < 65536 := h6
  clear h0 h2 h3 h4 h5 h6
  generalize s.enc = en at *
  generalize s.may = B at *
  go_enter Try.func58, Try.ntmps58
  have i0 := blk_cell HE.out.box 0
  have i1 := blk_cell HE.out.box 1
  have i2 := blk_cell HE.out.box 2
  have i3 := blk_cell HE.out.box 3
  have i4 := blk_cell HE.out.box 4
  have i5 := blk_cell HE.out.box 5
  have i6 := blk_cell HE.out.box 6
  go_wp2_with fail
  refine (M.out _).mono ?_
  rintro e w1 ⟨rfl, hb⟩
  have H1 := Lib.hid (HE.out.keep hb)
  clear hb HE M i0 i1 i2 i3 i4 i5 i6
  cases B with
  | false =>
    have c1 := blk_cell H1.out.out 0
    have f1 := blk_frozen H1.out.out 0
    have B1 : Hid (Below w.heap.size w (w1.setCell ⟨w.heap.size + 1, 0, none⟩ (.string ⟨#[]⟩))) := H1.out.below.setCell (by show w.heap.size ≤ w.heap.size + 1; omega) _
    have R1 := blk_cell (blk_set H1.out.out 0 (.string ⟨#[]⟩)) 0
    go_wp2_with fail
    refine bodyPost_ret (v := .tuple #[.string ⟨#[]⟩, .int .i64 2]) (by simp [results, Try.results58, go_sem, R1]) rfl ⟨?_, B1.out⟩
    exact congrArg Ending.returned (by rw [HO.out]; rfl)
  | true =>
    have i0 := blk_cell H1.out.box 0
    go_wp2_with fail
    refine (C0.out _ _ H1.out (by have h0 : (⟨#[]⟩ : ByteArray).size = 0 := rfl; (try simp only [ByteArray.size_append]); omega)).mono ?_
    rintro e w2 ⟨rfl, h2⟩
    have H2 := Lib.hid h2
    clear h2 H1 C0 i0
    have i1 := blk_cell H2.out.box 1
    go_wp2_with fail
    refine (C1.out _ _ H2.out (by have h0 : (⟨#[]⟩ : ByteArray).size = 0 := rfl; (try simp only [ByteArray.size_append]); omega)).mono ?_
    rintro e w3 ⟨rfl, h3⟩
    have H3 := Lib.hid h3
    clear h3 H2 C1 i1
    have i2 := blk_cell H3.out.box 2
    go_wp2_with fail
    refine (C2.out _ _ H3.out (by have h0 : (⟨#[]⟩ : ByteArray).size = 0 := rfl; (try simp only [ByteArray.size_append]); omega)).mono ?_
    rintro e w4 ⟨rfl, h4⟩
    have H4 := Lib.hid h4
    clear h4 H3 C2 i2
    have i3 := blk_cell H4.out.box 3
    go_wp2_with fail
    refine (C3.out _ _ H4.out (by have h0 : (⟨#[]⟩ : ByteArray).size = 0 := rfl; (try simp only [ByteArray.size_append]); omega)).mono ?_
    rintro e w5 ⟨rfl, h5⟩
    have H5 := Lib.hid h5
    clear h5 H4 C3 i3
    have i4 := blk_cell H5.out.box 4
    go_wp2_with fail
    refine (C4.out _ _ H5.out (by have h0 : (⟨#[]⟩ : ByteArray).size = 0 := rfl; (try simp only [ByteArray.size_append]); omega)).mono ?_
    rintro e w6 ⟨rfl, h6⟩
    have H6 := Lib.hid h6
    clear h6 H5 C4 i4
    have i5 := blk_cell H6.out.box 5
    go_wp2_with fail
    refine (C5.out _ _ H6.out (by have h0 : (⟨#[]⟩ : ByteArray).size = 0 := rfl; (try simp only [ByteArray.size_append]); omega)).mono ?_
    rintro e w7 ⟨rfl, h7⟩
    have H7 := Lib.hid h7
    clear h7 H6 C5 i5
    have i6 := blk_cell H7.out.box 6
    go_wp2_with fail
    refine (C6.out _ _ H7.out (by have h0 : (⟨#[]⟩ : ByteArray).size = 0 := rfl; (try simp only [ByteArray.size_append]); omega)).mono ?_
    rintro e w8 ⟨rfl, h8⟩
    have H8 := Lib.hid h8
    clear h8 H7 C6 i6
    rw [hfin.out] at H8
    have c1 := blk_cell H8.out.out 0
    have f1 := blk_frozen H8.out.out 0
    have B1 : Hid (Below w.heap.size w (w8.setCell ⟨w.heap.size + 1, 0, none⟩ (.string ⟨en.toArray⟩))) := H8.out.below.setCell (by show w.heap.size ≤ w.heap.size + 1; omega) _
    have R1 := blk_cell (blk_set H8.out.out 0 (.string ⟨en.toArray⟩)) 0
    go_wp2_with fail
    refine bodyPost_ret (v := .tuple #[.string ⟨en.toArray⟩, .int .i64 0]) (by simp [results, Try.results58, go_sem, R1]) rfl ⟨?_, B1.out⟩
    exact congrArg Ending.returned (by rw [HO.out]; rfl)
end Go.Proofs.Ytienlhnbmobinaa
end

section
/- chapter 22: which row bytes are (seg.Decode, the reference's) -/
namespace Go.Proofs.Ytienlhnbmobinaa
open Go.RowKit
set_option linter.unusedVariables false
set_option linter.unusedSimpArgs false
/-- The frame of seg.Decode: block B has the bytes, B + 1 the result, B + 1 + 1 the place. -/
structure SDe (B : Nat) (w0 : World) (l : List UInt8) (i : Nat) (w : World) : Prop where
  below : Below B w0 w
  size : B + 3 ≤ w.heap.size
  str : w.heap[B]? = some (.cells #[.string ⟨l.toArray⟩] 9 (0, 0))
  res : SgBox w (B + 1) Sg.zero
  pos : w.heap[B + 1 + 1]? = some (.cells #[.int .i64 i] 3 (0, 0))
theorem SDe.keep {B : Nat} {w0 w w' : World} {l : List UInt8} {i : Nat} (h : SDe B w0 l i w) (hb : Below w.heap.size w w') : SDe B w0 l i w' :=
  ⟨h.below.trans (hb.mono (by have := h.size; omega)), Nat.le_trans h.size hb.size, (hb.block _ (blk_lt h.str)).trans h.str, h.res.below hb, (hb.block _ (blk_lt h.pos)).trans h.pos⟩
theorem SDe.set {B : Nat} {w0 w : World} {l : List UInt8} {i : Nat} (h : SDe B w0 l i w) (x j : Nat) (u : Value) (hx : B + 3 ≤ x) : SDe B w0 l i (w.setCell ⟨x, j, none⟩ u) :=
  ⟨h.below.setCell (by show B ≤ x; omega) u, by simpa [World.setCell] using h.size, set_keep h.str (by omega), set_keep h.res (by omega), set_keep h.pos (by omega)⟩
theorem SDe.step {B : Nat} {w0 w wz : World} {l : List UInt8} {i : Nat} (h : SDe B w0 l i w) (hb : Below w.heap.size w wz) (j : Nat) : SDe B w0 l j (wz.setCell ⟨B + 1 + 1, 0, none⟩ (.int .i64 j)) := by
  have h := h.keep hb
  exact ⟨h.below.setCell (by show B ≤ B + 1 + 1; omega) _, by rw [set_lt]; exact h.size, set_keep h.str (by omega), set_keep h.res (by omega), blk_set h.pos 0 _⟩
theorem SDe.new (w : World) (l : List UInt8) : SDe w.heap.size w l 0 (((w.alloc (.cells #[.string ⟨l.toArray⟩] 9)).alloc (.cells #[.int .u64 0, .int .u8 0, .int .u64 0, .int .u32 0, .int .u32 0, .int .u32 0, .int .u16 0] 83)).alloc (.cells #[.int .i64 0] 3)) := by
  have z1 : (w.alloc (.cells #[.string ⟨l.toArray⟩] 9)).heap.size = w.heap.size + 1 := by simp
  have z2 : ((w.alloc (.cells #[.string ⟨l.toArray⟩] 9)).alloc (.cells #[.int .u64 0, .int .u8 0, .int .u64 0, .int .u32 0, .int .u32 0, .int .u32 0, .int .u16 0] 83)).heap.size = w.heap.size + 1 + 1 := by simp
  refine ⟨(((Below.refl _ _).alloc (Nat.le_refl _) _).alloc (by simp) _).alloc (by simp; omega) _, by simp, heap_keep (heap_keep (heap_alloc_new w _)), ?_, ?_⟩
  · have := heap_alloc_new (w.alloc (.cells #[.string ⟨l.toArray⟩] 9)) (.cells #[.int .u64 0, .int .u8 0, .int .u64 0, .int .u32 0, .int .u32 0, .int .u32 0, .int .u16 0] 83)
    rw [z1] at this
    exact heap_keep this
  · have := heap_alloc_new ((w.alloc (.cells #[.string ⟨l.toArray⟩] 9)).alloc (.cells #[.int .u64 0, .int .u8 0, .int .u64 0, .int .u32 0, .int .u32 0, .int .u32 0, .int .u16 0] 83)) (.cells #[.int .i64 0] 3)
    rw [z2] at this
    exact this
theorem sde_far {B : Nat} {w wz : World} (hb : Below w.heap.size w wz) (j : Value) (g : Nat) (hg : B + 3 ≤ g) (hl : g < w.heap.size) : (wz.setCell ⟨B + 1 + 1, 0, none⟩ j).heap[g]? = w.heap[g]? := by
  rw [Below.heap_setCell _ _ _ g (by show g ≠ B + 1 + 1; omega)]
  exact hb.block g hl
set_option maxHeartbeats 1000000 in
set_option maxRecDepth 100000 in
theorem segNext (l : List UInt8) (B i k : Nat) (w0 w : World) (hs : l.length = 31) (hi : i ≤ 31) (h1 : 1 ≤ k) (h8 : k ≤ 8) (h : SDe B w0 l i w) :
    Calls Try.prog 120 #[.int .i64 k, .pointer (some ⟨B, 0, none⟩), .pointer (some ⟨B + 1 + 1, 0, none⟩)] w fun e w' =>
      e = .returned (.int .u64 (rdNum l i k)) ∧ SDe B w0 l (i + k) w' ∧ w.heap.size ≤ w'.heap.size ∧ ∀ g, B + 3 ≤ g → g < w.heap.size → w'.heap[g]? = w.heap[g]? := by
  have G := Lib.hid fun W => wGet l i k W (by omega) (by omega) h1 h8
  have hwr : IntKind.i64.wrap ((i : Int) + (k : Int)) = ((i + k : Nat) : Int) := by
    rw [show ((i + k : Nat) : Int) = (i : Int) + (k : Int) by omega]
    exact IntWalk.i64_in _ ⟨by omega, by omega⟩
  generalize decide (i + k ≤ l.length) = b at *
  generalize rdNum l i k = n at *
  clear hi h1 h8 hs
  have c0 := blk_cell h.str 0
  have c1 := blk_cell h.pos 0
  have H := Lib.hid h
  clear h
  go_enter Try.func120, Try.ntmps120
  go_wp2_with fail
  refine (G.out _).mono ?_
  rintro e w1 ⟨rfl, hb⟩
  have h1 := H.out.keep hb
  have c1 := blk_cell h1.pos 0
  have f1 := blk_frozen h1.pos 0
  clear h1 c0
  have Hb := Lib.hid hb
  clear hb
  go_wp2_with fail
  go_ret
  exact ⟨rfl, H.out.step Hb.out _, by rw [set_lt]; exact Hb.out.size, sde_far Hb.out _⟩
def sgDecV (l : List UInt8) : Value := .tuple #[sgV ((sgDec l).getD Sg.zero), .int .i64 (if (sgDec l).isSome then 0 else 7)]
set_option maxHeartbeats 4000000 in
set_option maxRecDepth 100000 in
theorem segDecode_any (l : List UInt8) (w : World) (hs : l.length ≤ 1000000) : Calls Try.prog 60 #[.string ⟨l.toArray⟩] w fun e w' => e = .returned (sgDecV l) ∧ Below w.heap.size w w' := by
  have hsz : (⟨l.toArray⟩ : ByteArray).size = l.length := by simp [ByteArray.size]
  have M := Lib.hid fun s W => segMay_any s W
  have hV : sgDecV l = .tuple #[sgV ((sgDec l).getD Sg.zero), .int .i64 (if (sgDec l).isSome then 0 else 7)] := rfl
  generalize sgDecV l = V at *
  by_cases hl : l.length = 31
  case neg =>
    have hne : ((l.length : Int) != 31) = true := by simp; omega
    have hd : sgDec l = none := by unfold sgDec; rw [if_neg (fun h => hl h.1)]
    rw [hd] at hV
    have HV := Lib.hid hV
    have HS := Lib.hid (heap_keep (o := .cells #[.int .u64 0, .int .u8 0, .int .u64 0, .int .u32 0, .int .u32 0, .int .u32 0, .int .u16 0] 83) (heap_alloc_new w (.cells #[.string ⟨l.toArray⟩] 9)))
    have HB : Hid (SgBox ((w.alloc (.cells #[.string ⟨l.toArray⟩] 9)).alloc (.cells #[.int .u64 0, .int .u8 0, .int .u64 0, .int .u32 0, .int .u32 0, .int .u32 0, .int .u16 0] 83)) (w.heap.size + 1) Sg.zero) := by
      have h := heap_alloc_new (w.alloc (.cells #[.string ⟨l.toArray⟩] 9)) (.cells #[.int .u64 0, .int .u8 0, .int .u64 0, .int .u32 0, .int .u32 0, .int .u32 0, .int .u16 0] 83)
      rw [World.size_alloc] at h
      exact h
    have B0 := Lib.hid ((alloc_below w (.cells #[.string ⟨l.toArray⟩] 9)).alloc (by simp) (.cells #[.int .u64 0, .int .u8 0, .int .u64 0, .int .u32 0, .int .u32 0, .int .u32 0, .int .u16 0] 83))
    clear hV hd
    go_enter Try.func60, Try.ntmps60
    go_upto_region 1 with fail
    generalize (w.alloc (.cells #[.string ⟨l.toArray⟩] 9)).alloc (.cells #[.int .u64 0, .int .u8 0, .int .u64 0, .int .u32 0, .int .u32 0, .int .u32 0, .int .u16 0] 83) = w0 at *
    have c0 := blk_cell HS.out 0
    go_wp2_with (refine wpList_store_sg rfl (.tmp 2) (.tmp 10) rfl HB.out Sg.zero (by rfl) (by rfl) ?_; intro wS hP hK; have PF := Lib.hid hP; have KF := Lib.hid hK; clear hP hK)
    refine bodyPost_ret (results_sg rfl _ _ rfl PF.out) rfl ⟨?_, OthersKept.below B0.out KF.out (fun k hk e => by omega)⟩
    exact congrArg Ending.returned HV.out.symm
  case pos =>
    have hne : ((l.length : Int) != 31) = false := by simp [hl]
    have hdm : Hid (sgDec l = if (sgOf l).may then some (sgOf l) else none) := by
      show _ = _
      unfold sgDec
      by_cases hm : (sgOf l).may = true
      · rw [if_pos ⟨hl, hm⟩, if_pos hm]
      · rw [if_neg (fun h => hm h.2), if_neg hm]
    have hwf := sgOf_wf l
    have HN := Lib.hid fun (i k : Nat) W (hi : i ≤ 31) (h1 : 1 ≤ k) (h8 : k ≤ 8) (h : SDe w.heap.size w l i W) => segNext l w.heap.size i k w W hl hi h1 h8 h
    have HE := Lib.hid (SDe.new w l)
    have hs0 := Lib.hid (heap_keep (o := .cells #[.int .u64 0, .int .u8 0, .int .u64 0, .int .u32 0, .int .u32 0, .int .u32 0, .int .u16 0] 83) (heap_alloc_new w (.cells #[.string ⟨l.toArray⟩] 9)))
    obtain ⟨n0, e0⟩ : ∃ n, n = rdNum l 0 8 := ⟨_, rfl⟩
    obtain ⟨n1, e1⟩ : ∃ n, n = rdNum l 8 1 := ⟨_, rfl⟩
    obtain ⟨n2, e2⟩ : ∃ n, n = rdNum l 9 8 := ⟨_, rfl⟩
    obtain ⟨n3, e3⟩ : ∃ n, n = rdNum l 17 4 := ⟨_, rfl⟩
    obtain ⟨n4, e4⟩ : ∃ n, n = rdNum l 21 4 := ⟨_, rfl⟩
    obtain ⟨n5, e5⟩ : ∃ n, n = rdNum l 25 4 := ⟨_, rfl⟩
    obtain ⟨n6, e6⟩ : ∃ n, n = rdNum l 29 2 := ⟨_, rfl⟩
    have hof : sgOf l = ⟨n0, n1, n2, n3, n4, n5, n6⟩ := by rw [e0, e1, e2, e3, e4, e5, e6]; rfl
    rw [hof] at hdm hwf
    obtain ⟨q0, q1, q2, q3, q4, q5, q6⟩ := hwf
    simp only [Nat.reducePow] at q0 q1 q2 q3 q4 q5 q6
    have C0 := Lib.hid fun W h => HN.out 0 8 W (by omega) (by omega) (by omega) h
    have C1 := Lib.hid fun W h => HN.out 8 1 W (by omega) (by omega) (by omega) h
    have C2 := Lib.hid fun W h => HN.out 9 8 W (by omega) (by omega) (by omega) h
    have C3 := Lib.hid fun W h => HN.out 17 4 W (by omega) (by omega) (by omega) h
    have C4 := Lib.hid fun W h => HN.out 21 4 W (by omega) (by omega) (by omega) h
    have C5 := Lib.hid fun W h => HN.out 25 4 W (by omega) (by omega) (by omega) h
    have C6 := Lib.hid fun W h => HN.out 29 2 W (by omega) (by omega) (by omega) h
    rw [← e0] at C0
    rw [← e1] at C1
    rw [← e2] at C2
    rw [← e3] at C3
    rw [← e4] at C4
    rw [← e5] at C5
    rw [← e6] at C6
    have v1 : IntKind.u8.wrap (n1 : Int) = n1 := IntWalk.u8_in _ ⟨by omega, by omega⟩
    have v3 : IntKind.u32.wrap (n3 : Int) = n3 := IntWalk.u32_in _ ⟨by omega, by omega⟩
    have v4 : IntKind.u32.wrap (n4 : Int) = n4 := IntWalk.u32_in _ ⟨by omega, by omega⟩
    have v5 : IntKind.u32.wrap (n5 : Int) = n5 := IntWalk.u32_in _ ⟨by omega, by omega⟩
    have v6 : IntKind.u16.wrap (n6 : Int) = n6 := IntWalk.u16_in _ ⟨by omega, by omega⟩
    have HDM := Lib.hid hdm.out
    have HV := Lib.hid hV
    clear hdm hV hof HN e0 e1 e2 e3 e4 e5 e6
    go_enter Try.func60, Try.ntmps60
    go_upto_region 1 with fail
    have c0 := blk_cell hs0.out 0
    go_wp2_with fail
    refine (C0.out _ HE.out).mono ?_
    rintro e w1 ⟨rfl, h, hz, _⟩
    have H1 := Lib.hid h
    clear h hz c0 hs0 HE C0
    go_wp2_with fail
    refine (C1.out _ H1.out).mono ?_
    rintro e w2 ⟨rfl, h, hz, _⟩
    have H2 := Lib.hid h
    clear h hz H1 C1
    go_wp2_with fail
    refine (C2.out _ H2.out).mono ?_
    rintro e w3 ⟨rfl, h, hz, _⟩
    have H3 := Lib.hid h
    clear h hz H2 C2
    go_wp2_with fail
    refine (C3.out _ H3.out).mono ?_
    rintro e w4 ⟨rfl, h, hz, _⟩
    have H4 := Lib.hid h
    clear h hz H3 C3
    go_wp2_with fail
    refine (C4.out _ H4.out).mono ?_
    rintro e w5 ⟨rfl, h, hz, _⟩
    have H5 := Lib.hid h
    clear h hz H4 C4
    go_upto_region 6 with fail
    have HX5 := Lib.hid (SgBox.new w5 ⟨n0, n1, n2, n3, n4, 0, 0⟩)
    have HK5 := Lib.hid (H5.out.keep (alloc_below w5 (.cells #[.int .u64 n0, .int .u8 n1, .int .u64 n2, .int .u32 n3, .int .u32 n4, .int .u32 0, .int .u16 0] 83)))
    have hgs : w.heap.size + 3 ≤ w5.heap.size := H5.out.size
    have hlt : w5.heap.size < (w5.alloc (.cells #[.int .u64 n0, .int .u8 n1, .int .u64 n2, .int .u32 n3, .int .u32 n4, .int .u32 0, .int .u16 0] 83)).heap.size := by simp
    have HX : Hid (SgBox (w5.alloc (.cells #[.int .u64 n0, .int .u8 n1, .int .u64 n2, .int .u32 n3, .int .u32 n4, .int .u32 0, .int .u16 0] 83)) w5.heap.size ⟨n0, n1, n2, n3, n4, 0, 0⟩) := HX5.out
    clear HX5 H5
    generalize w5.alloc (.cells #[.int .u64 n0, .int .u8 n1, .int .u64 n2, .int .u32 n3, .int .u32 n4, .int .u32 0, .int .u16 0] 83) = w6 at *
    obtain ⟨X, hX⟩ : ∃ X, X = w5.heap.size := ⟨_, rfl⟩
    rw [← hX] at HX hgs hlt ⊢
    clear hX
    go_wp2_with fail
    refine (C5.out _ HK5.out).mono ?_
    rintro e w7 ⟨rfl, h, hz, hk⟩
    have H7 := Lib.hid h
    have X7 : Hid (SgBox w7 X ⟨n0, n1, n2, n3, n4, 0, 0⟩) := (hk X hgs hlt).trans HX.out
    clear h hz hk HK5 HX C5
    have c5 := blk_cell X7.out 5
    have f5 := blk_frozen X7.out 5
    have X8 : Hid (SgBox (w7.setCell ⟨X, 5, none⟩ (.int .u32 n5)) X ⟨n0, n1, n2, n3, n4, n5, 0⟩) := blk_set X7.out 5 (.int .u32 n5)
    have H8 := Lib.hid (H7.out.set X 5 (.int .u32 n5) hgs)
    have hlt8 := X8.out.lt
    clear X7 H7
    go_upto_region 7 with fail
    generalize w7.setCell ⟨X, 5, none⟩ (.int .u32 n5) = w8 at *
    clear c5 f5
    go_wp2_with fail
    refine (C6.out _ H8.out).mono ?_
    rintro e w9 ⟨rfl, h, hz, hk⟩
    have H9 := Lib.hid h
    have X9 : Hid (SgBox w9 X ⟨n0, n1, n2, n3, n4, n5, 0⟩) := (hk X hgs hlt8).trans X8.out
    clear h hz hk H8 X8 C6
    have c6 := blk_cell X9.out 6
    have f6 := blk_frozen X9.out 6
    have XA : Hid (SgBox (w9.setCell ⟨X, 6, none⟩ (.int .u16 n6)) X ⟨n0, n1, n2, n3, n4, n5, n6⟩) := blk_set X9.out 6 (.int .u16 n6)
    have HA := Lib.hid (H9.out.set X 6 (.int .u16 n6) hgs)
    clear X9 H9
    go_upto_region 8 with fail
    generalize w9.setCell ⟨X, 6, none⟩ (.int .u16 n6) = wA at *
    clear c6 f6
    obtain ⟨xl, x0, x1, x2, x3, x4, x5, x6⟩ := XA.out.cells
    simp only at x0 x1 x2 x3 x4 x5 x6
    have MM := Lib.hid fun W => M.out ⟨n0, n1, n2, n3, n4, n5, n6⟩ W
    unfold sgV at MM
    simp only at MM
    obtain ⟨b, hb0⟩ : ∃ b, b = Sg.may ⟨n0, n1, n2, n3, n4, n5, n6⟩ := ⟨_, rfl⟩
    rw [← hb0] at MM
    have HB0 := Lib.hid hb0
    clear hb0 M
    go_wp2_with fail
    refine (MM.out _).mono ?_
    rintro e wB ⟨rfl, hb⟩
    have HB := Lib.hid (HA.out.keep hb)
    have XB := Lib.hid (XA.out.below hb)
    clear hb HA XA x0 x1 x2 x3 x4 x5 x6 xl MM
    obtain ⟨xl, x0, x1, x2, x3, x4, x5, x6⟩ := XB.out.cells
    simp only at x0 x1 x2 x3 x4 x5 x6
    cases b with
    | false =>
      go_wp2_with (refine wpList_store_sg rfl (.tmp 2) (.tmp 39) rfl HB.out.res Sg.zero (by rfl) (by rfl) ?_; intro wS hP hK; have PF := Lib.hid hP; have KF := Lib.hid hK; clear hP hK)
      refine bodyPost_ret (results_sg rfl _ _ rfl PF.out) rfl ⟨?_, OthersKept.below HB.out.below KF.out (fun k hk e => by omega)⟩
      exact congrArg Ending.returned (by rw [HV.out, HDM.out, ← HB0.out]; rfl)
    | true =>
      go_wp2_with (refine wpList_store_sg rfl (.tmp 2) (.tmp 40) rfl HB.out.res ⟨n0, n1, n2, n3, n4, n5, n6⟩ (by rfl) (by rfl) ?_; intro wS hP hK; have PF := Lib.hid hP; have KF := Lib.hid hK; clear hP hK)
      refine bodyPost_ret (results_sg rfl _ _ rfl PF.out) rfl ⟨?_, OthersKept.below HB.out.below KF.out (fun k hk e => by omega)⟩
      exact congrArg Ending.returned (by rw [HV.out, HDM.out, ← HB0.out]; rfl)
end Go.Proofs.Ytienlhnbmobinaa
end
