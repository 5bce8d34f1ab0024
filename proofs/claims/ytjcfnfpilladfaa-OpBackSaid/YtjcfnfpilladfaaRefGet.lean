/- ref11: get.num and get.text -/
import Derived.Test.YtjcfnfpilladfaaRows
import Derived.Test.YtjcfnfpilladfaaOpWrite
import Derived.Test.YtjcfnfpilladfaaOpRead
import Derived.Test.YtjcfnfpilladfaaOpNum
import Derived.Test.YtjcfnfpilladfaaOpPlain
import Derived.Test.YtjcfnfpilladfaaOpWord
import Derived.Test.YtjcfnfpilladfaaOpSame
import Derived.Test.YtjcfnfpilladfaaOpLaw
import Derived.Test.YtjcfnfpilladfaaOpIn
import Derived.Test.YtjcfnfpilladfaaTextsMove
import Derived.Test.YtjcfnfpilladfaaTextsP
import Derived.Test.YtjcfnfpilladfaaPlains
import Derived.Test.YtjcfnfpilladfaaBase
import Derived.WalkKit
import Derived.WalkLawsBesides
import Derived.WalkSpells
import Derived.LoopTactic
import Derived.WalkMore
import Derived.LoopN
import Derived.Laws.BitsAllLaws
import Derived.Laws.IdiomStrings
import Derived.BigQuiet
import Derived.Deep.QuietTactic
import Derived.Deep.DeepCutAuto
import Derived.Deep.RegionHeld3
import Derived.Deep.DrawnRows
import Derived.Lib.Hide
import Derived.Outline
import Derived.Deep.DeepMust
import Derived.Handy
namespace Go.Proofs.Ytjcfnfpilladfaa
open Go.RowKit
set_option linter.unusedVariables false
set_option linter.unusedSimpArgs false

/-- What stands in a get. -/
structure Gd where
  s : List UInt8
  at_ : Nat
  bad : Bool
def Gd.num (g : Gd) (k : Nat) : Nat × Gd := if decide (g.at_ + k ≤ g.s.length) && !g.bad then (rdNum g.s g.at_ k, ⟨g.s, g.at_ + k, false⟩) else (0, ⟨g.s, g.at_ + k, true⟩)
def Gd.text (g : Gd) : List UInt8 × Gd :=
  if decide ((g.num 2).2.at_ + (g.num 2).1 ≤ g.s.length) && !(g.num 2).2.bad then (rdText g.s (g.num 2).2.at_ (g.num 2).1, ⟨g.s, (g.num 2).2.at_ + (g.num 2).1, false⟩) else ([], ⟨g.s, (g.num 2).2.at_ + (g.num 2).1, true⟩)
/-- A get in memory. -/
def GAt (w : World) (g : Nat) (c : Gd) : Prop := w.heap[g]? = some (.cells #[.string ⟨c.s.toArray⟩, .int .i64 (c.at_ : Nat), .bool c.bad] 114 (0, 0))
theorem GAt.cells {w : World} {g : Nat} {c : Gd} (h : GAt w g c) : g < w.heap.size ∧ w.cell? ⟨g, 0, none⟩ = some (.string ⟨c.s.toArray⟩) ∧ w.cell? ⟨g, 1, none⟩ = some (.int .i64 (c.at_ : Nat)) ∧ w.cell? ⟨g, 2, none⟩ = some (.bool c.bad) ∧ (∀ i, w.frozen? ⟨g, i, none⟩ = false) := by
  unfold GAt at h
  exact ⟨blk_lt h, by rw [blk_cell h]; rfl, by rw [blk_cell h]; rfl, by rw [blk_cell h]; rfl, fun i => blk_frozen h i⟩
theorem GAt.below {w w' : World} {g : Nat} {c : Gd} (h : GAt w g c) (hb : Below w.heap.size w w') : GAt w' g c := (hb.block _ (blk_lt h)).trans h
theorem GAt.put1 {w : World} {g : Nat} {c : Gd} (h : GAt w g c) (a : Nat) : GAt (w.setCell ⟨g, 1, none⟩ (.int .i64 (a : Nat))) g ⟨c.s, a, c.bad⟩ := by
  unfold GAt at *
  have h1 := blk_set h 1 (.int .i64 (a : Nat))
  simpa using h1
theorem GAt.put2 {w : World} {g : Nat} {c : Gd} (h : GAt w g c) (b : Bool) : GAt (w.setCell ⟨g, 2, none⟩ (.bool b)) g ⟨c.s, c.at_, b⟩ := by
  unfold GAt at *
  have h1 := blk_set h 2 (.bool b)
  simpa using h1
theorem GAt.drew {w : World} {g : Nat} {c : Gd} (h : GAt w g c) : GAt w.drew g c := h
theorem GAt.cast {w : World} {g : Nat} {c c' : Gd} (h : GAt w g c) (e : c = c') : GAt w g c' := e ▸ h
theorem kept_drew {w w' : World} {p : Nat → Prop} (h : OthersKept w w' p) : OthersKept w w'.drew p := ⟨h.os, h.tape, h.output, h.size, h.block⟩
theorem drew_kept {w w' : World} {p : Nat → Prop} (h : OthersKept w.drew w' p) : OthersKept w w' p := ⟨h.os, h.tape, h.output, h.size, h.block⟩
set_option maxHeartbeats 2000000 in
set_option maxRecDepth 100000 in
theorem getNum_any (w : World) (g k : Nat) (c : Gd) (h : GAt w g c) (hs : c.s.length ≤ 100000) (ha : c.at_ ≤ 1000000) (hk : k = 1 ∨ k = 2 ∨ k = 4) :
    Calls Try.prog 66 #[.pointer (some ⟨g, 0, none⟩), .int .i64 (k : Nat)] w fun e w' => e = .returned (.int .i64 ((c.num k).1 : Nat)) ∧ GAt w' g (c.num k).2 ∧ OthersKept w w' (fun x => x = g) := by
  obtain ⟨s, at_, bad⟩ := c
  obtain ⟨gl, k0, k1, k2, kf⟩ := h.cells
  have kf1 := kf 1
  have kf2 := kf 2
  simp only at *
  have HG := Lib.hid h
  have GE := Lib.hid fun W => rGet s at_ k W (by omega) (by omega) (by omega) (by omega)
  have hlt : rdNum s at_ k < 256 ^ 4 := by
    have h1 := rdNum_fits s at_ k
    rcases hk with rfl | rfl | rfl <;> simp only [Nat.reducePow] at * <;> omega
  simp only [Nat.reducePow] at hlt
  have HC : Hid (Gd.num ⟨s, at_, bad⟩ k = if decide (at_ + k ≤ s.length) && !bad then (rdNum s at_ k, ⟨s, at_ + k, false⟩) else (0, ⟨s, at_ + k, true⟩)) := rfl
  generalize Gd.num ⟨s, at_, bad⟩ k = R at *
  have F1 : Hid (∀ X : Int, X = ((at_ + k : Nat) : Int) → GAt (w.setCell ⟨g, 1, none⟩ (.int .i64 X)).drew g ⟨s, at_ + k, bad⟩) := by
    show ∀ X : Int, _
    rintro X rfl
    exact (h.put1 _).drew
  have F2 : Hid (∀ X : Int, X = ((at_ + k : Nat) : Int) → GAt ((w.setCell ⟨g, 1, none⟩ (.int .i64 X)).setCell ⟨g, 2, none⟩ (.bool true)).drew g ⟨s, at_ + k, true⟩) := by
    show ∀ X : Int, _
    rintro X rfl
    exact ((h.put1 _).put2 true).drew
  have O1 := Lib.hid fun (a : Value) => kept_drew (one_kept w g 1 a)
  have O2 := Lib.hid fun (a b : Value) => kept_drew ((one_kept w g 1 a).trans (one_kept _ g 2 b) (fun _ _ h => h))
  clear h kf
  have hk8 : k ≤ 8 := by omega
  obtain ⟨n, hn⟩ : ∃ n, n = rdNum s at_ k := ⟨_, rfl⟩
  rw [← hn] at GE HC hlt
  clear hn hk
  obtain ⟨is, his⟩ : ∃ b, b = decide (at_ + k ≤ s.length) := ⟨_, rfl⟩
  rw [← his] at GE HC
  clear his
  go_enter Try.func66, Try.ntmps66
  have KD : Hid (w.drew.cell? ⟨g, 0, none⟩ = some (.string ⟨s.toArray⟩) ∧ w.drew.cell? ⟨g, 1, none⟩ = some (.int .i64 (at_ : Nat))) := ⟨k0, k1⟩
  go_upto_region 1 with fail
  go_region_held3 (fun W => W.cell? ⟨g, 0, none⟩ = some (.string ⟨s.toArray⟩) ∧ W.cell? ⟨g, 1, none⟩ = some (.int .i64 (at_ : Nat)))
    (first | (with_reducible exact KD.out))
    (first | (go_at_call 97; refine (GE.out _).mono ?_; rintro e w1 ⟨rfl, rfl⟩))
  clear KD
  cases bad
  all_goals
    cases is
    all_goals
      have HC2 := HC.out
      simp only [Bool.false_and, Bool.true_and, Bool.not_true, Bool.not_false, Bool.false_eq_true, if_true, if_false] at HC2
      have HC3 := Lib.hid HC2
      clear HC2 HC
      go_wp2_with fail
      (try simp only [Exit.inBlock, Exit.then])
      refine bodyPost_ret (results_tmp rfl _ _ _) rfl ?_
      rw [HC3.out]
      first
        | exact ⟨rfl, F1.out _ (by omega), O1.out _⟩
        | exact ⟨rfl, F2.out _ (by omega), O2.out _ _⟩
theorem num_bounds (g : Gd) (k : Nat) (hk : k = 1 ∨ k = 2 ∨ k = 4) : (g.num k).1 < 256 ^ k ∧ (g.num k).2.at_ = g.at_ + k ∧ (g.num k).2.s = g.s := by
  unfold Gd.num
  split
  · exact ⟨rdNum_fits _ _ _, rfl, rfl⟩
  · exact ⟨Nat.pos_of_ne_zero (by simp), rfl, rfl⟩
set_option maxHeartbeats 2000000 in
set_option maxRecDepth 100000 in
theorem getText_any (w : World) (g : Nat) (c : Gd) (h : GAt w g c) (hs : c.s.length ≤ 100000) (ha : c.at_ ≤ 900000) :
    Calls Try.prog 98 #[.pointer (some ⟨g, 0, none⟩)] w fun e w' => e = .returned (.string ⟨c.text.1.toArray⟩) ∧ GAt w' g c.text.2 ∧ OthersKept w w' (fun x => x = g) := by
  have hb := num_bounds c 2 (by omega)
  have HNM := Lib.hid (getNum_any w g 2 c h hs (by omega) (by omega))
  have HC : Hid (c.text = if decide ((c.num 2).2.at_ + (c.num 2).1 ≤ (c.num 2).2.s.length) && !(c.num 2).2.bad then (rdText (c.num 2).2.s (c.num 2).2.at_ (c.num 2).1, ⟨(c.num 2).2.s, (c.num 2).2.at_ + (c.num 2).1, false⟩) else ([], ⟨(c.num 2).2.s, (c.num 2).2.at_ + (c.num 2).1, true⟩)) := by
    show _ = _
    rw [hb.2.2]
    unfold Gd.text
    rfl
  have gl := h.cells.1
  generalize c.text = R at *
  obtain ⟨hb1, hb2, hb3⟩ := hb
  have hs2 : (c.num 2).2.s.length ≤ 100000 := by rw [hb3]; exact hs
  have ha2 : (c.num 2).2.at_ ≤ 1000000 := by omega
  clear hb2 hb3 hs ha h
  simp only [Nat.reducePow] at hb1
  generalize c.num 2 = q at *
  obtain ⟨n, s, at_, bad⟩ := q
  simp only at *
  clear c
  have CU := Lib.hid fun W => rCut s at_ n W (by omega) (by omega) (by omega)
  go_enter Try.func98, Try.ntmps98
  go_wp2_with fail
  refine HNM.out.mono ?_
  rintro e w1 ⟨rfl, h, hkp⟩
  obtain ⟨gl1, k0, k1, k2, kf⟩ := h.cells
  have kf1 := kf 1
  have kf2 := kf 2
  have HG := Lib.hid h
  have F1 : Hid (∀ X : Int, X = ((at_ + n : Nat) : Int) → GAt (w1.setCell ⟨g, 1, none⟩ (.int .i64 X)).drew g ⟨s, at_ + n, bad⟩) := by
    show ∀ X : Int, _
    rintro X rfl
    exact (h.put1 _).drew
  have F2 : Hid (∀ X : Int, X = ((at_ + n : Nat) : Int) → GAt ((w1.setCell ⟨g, 1, none⟩ (.int .i64 X)).setCell ⟨g, 2, none⟩ (.bool true)).drew g ⟨s, at_ + n, true⟩) := by
    show ∀ X : Int, _
    rintro X rfl
    exact ((h.put1 _).put2 true).drew
  have O1 := Lib.hid fun (a : Value) => hkp.trans (kept_drew (one_kept w1 g 1 a)) (fun _ _ h => h)
  have O2 := Lib.hid fun (a b : Value) => hkp.trans (kept_drew ((one_kept w1 g 1 a).trans (one_kept _ g 2 b) (fun _ _ h => h))) (fun _ _ h => h)
  clear h kf hkp HNM gl
  obtain ⟨is, his⟩ : ∃ b, b = decide (at_ + n ≤ s.length) := ⟨_, rfl⟩
  rw [← his] at CU HC
  clear his
  obtain ⟨t, ht⟩ : ∃ t, t = rdText s at_ n := ⟨_, rfl⟩
  rw [← ht] at CU HC
  clear ht
  have KD : Hid (w1.drew.cell? ⟨g, 0, none⟩ = some (.string ⟨s.toArray⟩) ∧ w1.drew.cell? ⟨g, 1, none⟩ = some (.int .i64 (at_ : Nat))) := ⟨k0, k1⟩
  go_upto_region 2 with fail
  go_region_held3 (fun W => W.cell? ⟨g, 0, none⟩ = some (.string ⟨s.toArray⟩) ∧ W.cell? ⟨g, 1, none⟩ = some (.int .i64 (at_ : Nat)))
    (first | (with_reducible exact KD.out))
    (first | (go_at_call 132; refine (CU.out _).mono ?_; rintro e w2 ⟨rfl, rfl⟩))
  clear KD
  cases bad
  all_goals
    cases is
    all_goals
      have HC2 := HC.out
      simp only [Bool.false_and, Bool.true_and, Bool.not_true, Bool.not_false, Bool.false_eq_true, if_true, if_false] at HC2
      have HC3 := Lib.hid HC2
      clear HC2 HC
      go_wp2_with fail
      (try simp only [Exit.inBlock, Exit.then])
      refine bodyPost_ret (results_tmp rfl _ _ _) rfl ?_
      rw [HC3.out]
      first
        | exact ⟨rfl, F1.out _ (by omega), O1.out _⟩
        | exact ⟨rfl, F2.out _ (by omega), O2.out _ _⟩

end Go.Proofs.Ytjcfnfpilladfaa
