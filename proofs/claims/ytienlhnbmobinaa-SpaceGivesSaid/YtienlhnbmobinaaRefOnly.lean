/- ref11: Only -/
import Derived.Test.YtienlhnbmobinaaRows
import Derived.Test.YtienlhnbmobinaaOpPlain
import Derived.Test.YtienlhnbmobinaaOpSame
import Derived.Test.YtienlhnbmobinaaOpPart
import Derived.Test.YtienlhnbmobinaaOpLaw
import Derived.Test.YtienlhnbmobinaaTextsP
import Derived.Test.YtienlhnbmobinaaPlains
import Derived.Test.YtienlhnbmobinaaBase
import Derived.WalkKit
import Derived.WalkLawsBesides
import Derived.WalkSpells
import Derived.LoopTactic
import Derived.WalkMore
import Derived.LoopN
import Derived.Laws.BitsAllLaws
import Derived.Laws.IdiomStrings
import Derived.BigQuiet
import Derived.Deep.QuietTactic
import Derived.Deep.DeepCutAuto
import Derived.Deep.RegionHeld3
import Derived.Deep.DrawnRows
import Derived.Lib.Hide
import Derived.Outline
import Derived.Deep.DeepMust
import Derived.Handy
namespace Go.Proofs.Ytienlhnbmobinaa
open Go.RowKit
set_option linter.unusedVariables false
set_option linter.unusedSimpArgs false

theorem results_op1 {fn : Func} {p : Tmp} (h : fn.results = #[.cell p 28]) (tmps : Array Value) (w : World) {g : Nat} {o : Od} {sv : Value} (hp : tmps.getD p undef = .pointer (some ⟨g, 0, none⟩)) (hb : OAt w g o sv) :
    (results fn tmps).run Try.prog w = .ok (odV o sv) w := by
  unfold OAt at hb
  have hp2 : tmps[p]?.getD undef = .pointer (some ⟨g, 0, none⟩) := by simpa using hp
  simp [results, h, hp2, asAddr, run_loadVar_row w g 28 28 _ (0, 0) _ hb Try.underlying28 rfl (by kernel_rfl), Result.andThen, odV]
theorem mid_alloc (w : World) (A B C : Obj) : (((w.alloc A).alloc B).alloc C).heap[w.heap.size + 1]? = some B := by
  have h := heap_keep (o := C) (heap_alloc_new (w.alloc A) B)
  simpa using h
theorem below3 (w : World) (A B C : Obj) : Below w.heap.size w (((w.alloc A).alloc B).alloc C) := ((alloc_below w A).alloc (by simp) B).alloc (by simp; omega) C
theorem only_else (o : Od) (h : ¬ (1 ≤ o.kind ∧ o.kind ≤ 8)) : o.only = ⟨o.kind, o.page, 0, 0, [], [], 0, 0, 0⟩ := by
  unfold Od.only
  split <;> first | rfl | (exfalso; omega)
set_option maxHeartbeats 4000000 in
set_option maxRecDepth 100000 in
theorem refOnly_any (o : Od) (sv : Value) (w : World) (ht : TextsAt w sv o.rows) :
    Calls Try.prog 148 #[odV o sv] w fun e w' => ∃ sv', e = .returned (odV o.only sv') ∧ TextsAt w' sv' o.only.rows ∧ Below w.heap.size w w' := by
  have HE := only_else o
  obtain ⟨kind, page, at_, off, text, rows, pk, lv, nx⟩ := o
  have HT := Lib.hid fun W (hB : Below w.heap.size w W) => ht.below hB
  obtain ⟨A, cp, rfl, _⟩ := ht
  simp only at *
  by_cases h : 1 ≤ kind ∧ kind ≤ 8
  · clear HE
    rcases kinds h with rfl | rfl | rfl | rfl | rfl | rfl | rfl | rfl
    all_goals
      simp only [Od.only]
      clear h
      rename_i HX
      clear HX
      unfold odV
      go_enter Try.func148, Try.ntmps148
      go_wp2_with fail
      (try simp only [Exit.inBlock, Exit.then])
    all_goals
      first
        | (refine bodyPost_ret (results_op1 (p := 2) (o := ⟨6, page, 0, 0, [], rows, 0, 0, 0⟩) (sv := .slice A rows.length cp) (by kernel_rfl) _ _ rfl (mid_alloc _ _ _ _)) rfl ?_; exact ⟨_, rfl, HT.out _ (below3 _ _ _ _), below3 _ _ _ _⟩)
        | (refine bodyPost_ret (results_op1 (p := 2) (o := ⟨1, page, 0, 0, [], [], pk, lv, nx⟩) (sv := .slice none 0 0) (by kernel_rfl) _ _ rfl (mid_alloc _ _ _ _)) rfl ?_; exact ⟨_, rfl, TextsAt.nil _, below3 _ _ _ _⟩)
        | (refine bodyPost_ret (results_op1 (p := 2) (o := ⟨2, page, at_, 0, text, [], 0, 0, 0⟩) (sv := .slice none 0 0) (by kernel_rfl) _ _ rfl (mid_alloc _ _ _ _)) rfl ?_; exact ⟨_, rfl, TextsAt.nil _, below3 _ _ _ _⟩)
        | (refine bodyPost_ret (results_op1 (p := 2) (o := ⟨3, page, at_, 0, text, [], 0, 0, 0⟩) (sv := .slice none 0 0) (by kernel_rfl) _ _ rfl (mid_alloc _ _ _ _)) rfl ?_; exact ⟨_, rfl, TextsAt.nil _, below3 _ _ _ _⟩)
        | (refine bodyPost_ret (results_op1 (p := 2) (o := ⟨4, page, at_, 0, [], [], 0, 0, 0⟩) (sv := .slice none 0 0) (by kernel_rfl) _ _ rfl (mid_alloc _ _ _ _)) rfl ?_; exact ⟨_, rfl, TextsAt.nil _, below3 _ _ _ _⟩)
        | (refine bodyPost_ret (results_op1 (p := 2) (o := ⟨5, page, at_, 0, [], [], 0, 0, 0⟩) (sv := .slice none 0 0) (by kernel_rfl) _ _ rfl (mid_alloc _ _ _ _)) rfl ?_; exact ⟨_, rfl, TextsAt.nil _, below3 _ _ _ _⟩)
        | (refine bodyPost_ret (results_op1 (p := 2) (o := ⟨7, page, 0, 0, [], [], 0, 0, nx⟩) (sv := .slice none 0 0) (by kernel_rfl) _ _ rfl (mid_alloc _ _ _ _)) rfl ?_; exact ⟨_, rfl, TextsAt.nil _, below3 _ _ _ _⟩)
        | (refine bodyPost_ret (results_op1 (p := 2) (o := ⟨8, page, at_, off, text, [], 0, 0, 0⟩) (sv := .slice none 0 0) (by kernel_rfl) _ _ rfl (mid_alloc _ _ _ _)) rfl ?_; exact ⟨_, rfl, TextsAt.nil _, below3 _ _ _ _⟩)
  · rw [HE h]
    have n1 : ((kind : Int) == 1) = false := by simp; omega
    have n2 : ((kind : Int) == 2) = false := by simp; omega
    have n3 : ((kind : Int) == 3) = false := by simp; omega
    have n4 : ((kind : Int) == 4) = false := by simp; omega
    have n5 : ((kind : Int) == 5) = false := by simp; omega
    have n6 : ((kind : Int) == 6) = false := by simp; omega
    have n7 : ((kind : Int) == 7) = false := by simp; omega
    have n8 : ((kind : Int) == 8) = false := by simp; omega
    clear HE h
    unfold odV
    go_enter Try.func148, Try.ntmps148
    go_wp2_with fail
    (try simp only [Exit.inBlock, Exit.then])
    refine bodyPost_ret (results_op1 (p := 2) (o := ⟨kind, page, 0, 0, [], [], 0, 0, 0⟩) (sv := .slice none 0 0) (by kernel_rfl) _ _ rfl (mid_alloc _ _ _ _)) rfl ?_
    exact ⟨_, rfl, TextsAt.nil _, below3 _ _ _ _⟩

end Go.Proofs.Ytienlhnbmobinaa
