/- chapter 11: a text gone through -/
import Derived.Test.YtienlhnbmobinaaRows
import Derived.Test.YtienlhnbmobinaaOpNum
import Derived.Test.YtienlhnbmobinaaOpPlain
import Derived.Test.YtienlhnbmobinaaOpWord
import Derived.Test.YtienlhnbmobinaaBase
import Derived.Test.YtienlhnbmobinaaTextsP
import Derived.Deep.CutBlock
import Derived.WalkKit
import Derived.WalkLawsBesides
import Derived.WalkSpells
import Derived.LoopTactic
import Derived.WalkMore
import Derived.LoopN
import Derived.Laws.BitsAllLaws
import Derived.Laws.IdiomStrings
import Derived.BigQuiet
import Derived.Deep.QuietTactic
import Derived.Deep.DeepCutAuto
import Derived.Deep.RegionHeld3
import Derived.Deep.DrawnRows
import Derived.Lib.Hide
import Derived.Outline
import Derived.Deep.DeepMust
import Derived.Handy
namespace Go.Proofs.Ytienlhnbmobinaa
open Go.RowKit
set_option linter.unusedVariables false
set_option linter.unusedSimpArgs false

theorem KAt.put_s {w : World} {gk go : Nat} {c : Cd} (h : KAt w gk go c) (s' : List UInt8) : KAt (w.setCell ⟨gk, 1, none⟩ (.string ⟨s'.toArray⟩)) gk go ⟨c.o, s', c.at_, c.rd, c.bad⟩ := by
  unfold KAt at *
  have h2 := blk_set h 1 (.string ⟨s'.toArray⟩)
  simpa using h2
theorem KAt.put_m {w : World} {gk go b i : Nat} {c : Cd} {S : Value} (h : KAt w gk go c) (hne : b ≠ gk) (at' : Nat) (X : Bool) : KAt (((w.setCell ⟨gk, 2, none⟩ (.int .i64 (at' : Nat))).setCell ⟨b, i, none⟩ S).setCell ⟨gk, 4, none⟩ (.bool X)) gk go ⟨c.o, c.s, at', c.rd, X⟩ := by
  unfold KAt at *
  have h1 := blk_set h 2 (.int .i64 (at' : Nat))
  have h3 := blk_set (set_keep (j := i) (u := S) h1 (fun e => hne e.symm)) 4 (.bool X)
  simpa using h3
set_option maxHeartbeats 4000000 in
set_option maxRecDepth 100000 in
theorem piece_any (w : World) (gk go b i : Nat) (c : Cd) (cs : Array Value) (T : TypeId) (t : List UInt8) (hK : KAt w gk go c) (hB : w.heap[b]? = some (.cells cs T (0, 0))) (hi : cs[i]? = some (.string ⟨t.toArray⟩)) (hne : b ≠ gk) (ht : t.length ≤ 900000) (hs : c.s.length ≤ 800000) (ha : c.at_ ≤ 1800000) :
    Calls Try.prog 215 #[.pointer (some ⟨gk, 0, none⟩), .pointer (some ⟨b, i, none⟩)] w fun e w' => e = .returned (.tuple #[]) ∧ KAt w' gk go (c.piece t) ∧ w'.heap[b]? = some (.cells (cs.setIfInBounds i (.string ⟨(c.pieceV t).toArray⟩)) T (0, 0)) ∧ OthersKept w w' (fun k => k = gk ∨ k = b) := by
  have hbl : b < w.heap.size := blk_lt hB
  have hkl : gk < w.heap.size := blk_lt hK
  have b0 : w.cell? ⟨b, i, none⟩ = some (.string ⟨t.toArray⟩) := by rw [blk_cell hB]; exact hi
  have HI := Lib.hid hi
  have hN : (w.alloc (.cells #[.int .i64 (t.length : Int)] 3)).heap[w.heap.size]? = some (.cells #[.int .i64 (t.length : Int)] 3 (0, 0)) := heap_alloc_new w _
  have hK0 := heap_keep (o := .cells #[.int .i64 (t.length : Int)] 3) hK
  have hB0 := heap_keep (o := .cells #[.int .i64 (t.length : Int)] 3) hB
  have hA := alloc_below w (.cells #[.int .i64 (t.length : Int)] 3)
  have NU := Lib.hid (num_i64 (w.alloc (.cells #[.int .i64 (t.length : Int)] 3)) gk go w.heap.size 0 c #[.int .i64 (t.length : Int)] 3 488 (t.length : Int) hK0 hN rfl (by omega) ⟨by omega, by omega⟩ (by omega) (by omega) (by omega))
  have HB := Lib.hid hB0
  have HA := Lib.hid hA
  clear hN hK0 hB0 hA hB hK hi
  go_enter Try.func215, Try.ntmps215
  go_wp2_with fail
  generalize w.alloc (.cells #[.int .i64 (t.length : Int)] 3) = w0 at *
  refine NU.out.mono ?_
  rintro e w1 ⟨rfl, hk, hn, ho⟩
  have K1 := Lib.hid hk
  have N1 := Lib.hid hn
  have B1 := Lib.hid (ho.heap HB.out (fun h => h.elim hne (fun h => by omega)))
  have O1 : Hid (OthersKept w w1 (fun k => k = gk ∨ k = b)) := ⟨ho.os.trans HA.out.os, ho.tape.trans HA.out.tape, ho.output.trans HA.out.output, Nat.le_trans HA.out.size ho.size, fun k hk hn => (ho.block k (Nat.lt_of_lt_of_le hk HA.out.size) (fun h => h.elim (fun h => hn (.inl h)) (fun h => by omega))).trans (HA.out.block k hk)⟩
  clear hk hn ho NU HB HA b0
  obtain ⟨o, s, at_, rd, bad⟩ := c
  have hkk : KAt w1 gk go (Cd.num ⟨o, s, at_, rd, bad⟩ 2 488 (t.length : Int)) := K1.out
  simp only at *
  have b1 : w1.cell? ⟨b, i, none⟩ = some (.string ⟨t.toArray⟩) := by rw [blk_cell B1.out]; exact HI.out
  have bf : w1.frozen? ⟨b, i, none⟩ = false := blk_frozen B1.out i
  have hgn : w.heap.size ≠ gk := by omega
  have hgb : w.heap.size ≠ b := by omega
  cases rd with
  | false =>
    have hcs : cs.setIfInBounds i (.string ⟨t.toArray⟩) = cs := set_same HI.out
    obtain ⟨S1, hS1⟩ : ∃ S1, S1 = Cd.numS ⟨o, s, at_, false, bad⟩ 2 (t.length : Int) := ⟨_, rfl⟩
    obtain ⟨X1, hX1⟩ : ∃ X1, X1 = Cd.numX ⟨o, s, at_, false, bad⟩ 2 488 (t.length : Int) := ⟨_, rfl⟩
    have hS1l : S1.length ≤ 800002 := by
      rw [hS1]
      simp only [Cd.numS, Bool.false_eq_true, if_false]
      rw [List.length_append]
      split
      · rw [be_length]; omega
      · simp; omega
    have hk2 : KAt w1 gk go ⟨o, S1, at_, false, X1⟩ := KAt.cast hkk (by rw [hS1, hX1]; rfl)
    have HP : Hid (Cd.piece ⟨o, s, at_, false, bad⟩ t = ⟨o, S1 ++ t, at_, false, X1⟩) := Lib.hid (by rw [hS1, hX1]; rfl)
    have K2 := Lib.hid hk2
    clear hS1 hX1 hkk K1 hk2 N1
    obtain ⟨l0, l1, l2, l3, l4, l5⟩ := K2.out.cells
    have kf1 := K2.out.fr 1
    simp only at l2 l3 l4 l5
    have hcat : ¬ 9223372036854775807 < S1.length + t.length := by omega
    have hcat2 : S1.length + t.length ≤ 9223372036854775807 := by omega
    have hcat3 : (⟨S1.toArray⟩ : ByteArray).size + (⟨t.toArray⟩ : ByteArray).size ≤ maxLen := by show S1.toArray.size + t.toArray.size ≤ maxLen; unfold maxLen; simp; omega
    go_upto_region 3 with fail
    go_region
    go_wp2_with fail
    (try simp only [Exit.inBlock, Exit.then])
    refine bodyPost_ret (results_none rfl _ _ _) rfl ?_
    rw [bytes_app]
    refine ⟨rfl, ?_, ?_, ?_⟩
    · rw [HP.out]
      exact KAt.put_s K2.out (S1 ++ t)
    · simp only [Cd.pieceV, Bool.false_eq_true, if_false]
      rw [hcs]
      exact set_keep B1.out hne
    · exact (O1.out.trans (one_kept2 w1 gk b 1 _) (fun _ _ h => h)).then_below ((Below.refl _ _).drew)
  | true =>
    obtain ⟨X1, hX1⟩ : ∃ X1, X1 = Cd.numX ⟨o, s, at_, true, bad⟩ 2 488 (t.length : Int) := ⟨_, rfl⟩
    obtain ⟨n, hn⟩ : ∃ n, n = rdNum s at_ 2 := ⟨_, rfl⟩
    have hnl : n < 65536 := by rw [hn]; have := rdNum_lt s at_ 2; simpa using this
    obtain ⟨a1, ha1⟩ : ∃ a1, a1 = at_ + 2 := ⟨_, rfl⟩
    have hal : a1 ≤ 1800002 := by omega
    have hk2 : KAt w1 gk go ⟨o, s, a1, true, X1⟩ := KAt.cast hkk (by rw [hX1, ha1]; rfl)
    have n1 : w1.cell? ⟨w.heap.size, 0, none⟩ = some (.int .i64 (n : Nat)) := by rw [blk_cell N1.out, hn]; rfl
    have HP : Hid (Cd.piece ⟨o, s, at_, true, bad⟩ t = ⟨o, s, a1 + n, true, X1 || !decide (a1 + n ≤ s.length)⟩) := Lib.hid (by rw [hX1, hn, ha1]; rfl)
    have HV : Hid (Cd.pieceV ⟨o, s, at_, true, bad⟩ t = rdText s a1 n) := Lib.hid (by rw [hn, ha1]; rfl)
    have K2 := Lib.hid hk2
    have CU := Lib.hid fun W => wCut s a1 n W (by omega) (by omega) (by omega)
    clear hX1 hkk K1 hk2 N1 hn ha1
    obtain ⟨l0, l1, l2, l3, l4, l5⟩ := K2.out.cells
    have kf := K2.out.fr
    have kf2 := kf 2
    have kf4 := kf 4
    clear kf
    simp only at l2 l3 l4 l5
    go_upto_region 4 with fail
    go_region_held3 (fun W => W.cell? ⟨gk, 1, none⟩ = some (.string ⟨s.toArray⟩) ∧ W.cell? ⟨gk, 2, none⟩ = some (.int .i64 (a1 : Nat)) ∧ W.cell? ⟨w.heap.size, 0, none⟩ = some (.int .i64 (n : Nat)))
      (first
        | (with_reducible exact ⟨l2, l3, n1⟩)
        | exact ⟨l2, l3, n1⟩)
      (first
        | (go_at_call 108; refine (CU.out _).mono ?_; rintro e w2 ⟨rfl, rfl⟩))
    obtain ⟨T', hT⟩ : ∃ T', T' = rdText s a1 n := ⟨_, rfl⟩
    rw [← hT] at HV ⊢
    clear hT
    have hsum : IntKind.i64.wrap ((a1 : Int) + (n : Int)) = ((a1 + n : Nat) : Int) := by rw [show ((a1 + n : Nat) : Int) = (a1 : Int) + (n : Int) by omega]; exact IntWalk.i64_in _ ⟨by omega, by omega⟩
    have FK := Lib.hid fun (S : Value) (X : Bool) => KAt.put_m (i := i) (S := S) K2.out hne (a1 + n) X
    have FB := Lib.hid fun (S S2 X : Value) => set_keep (j := 4) (u := X) (blk_set (set_keep (j := 2) (u := S) B1.out hne) i S2) hne
    have FO := Lib.hid fun (S S2 X : Value) => ((O1.out.trans (one_kept2 w1 gk b 2 S) (fun _ _ h => h)).trans (one_kept3 _ gk b i S2) (fun _ _ h => h)).trans (one_kept2 _ gk b 4 X) (fun _ _ h => h)
    go_upto_region 5 with fail
    go_region
    cases X1
    all_goals
      cases his : decide (a1 + n ≤ s.length)
      all_goals
        go_wp2_with fail
        (try simp only [Exit.inBlock, Exit.then])
        refine bodyPost_end (results_none rfl _ _ _) rfl ?_
        rw [show (a1 : Int) + (n : Int) = ((a1 + n : Nat) : Int) by omega]
        refine ⟨rfl, ?_, ?_, ?_⟩
        · rw [HP.out, his]
          exact FK.out _ _
        · rw [HV.out]
          exact FB.out _ _ _
        · exact (FO.out _ _ _).then_below ((Below.refl _ _).drew.drew)

end Go.Proofs.Ytienlhnbmobinaa
