/- Kept of our texts for this claim: OpNum OpPiece OpPart -/
import Derived.Test.YtienlhnbmobinaaGreatRows
import Derived.Test.YtienlhnbmobinaaGreatAdAk
import Derived.Test.YtienlhnbmobinaaGreatAdAb
import Derived.Test.YtienlhnbmobinaaGreatAdAc
import Derived.Deep.CutBlock
import Derived.WalkKit
import Derived.WalkLawsBesides
import Derived.WalkSpells
import Derived.LoopTactic
import Derived.WalkMore
import Derived.LoopN
import Derived.Laws.BitsAllLaws
import Derived.Laws.IdiomStrings
import Derived.BigQuiet
import Derived.Deep.QuietTactic
import Derived.Deep.DeepCutAuto
import Derived.Deep.RegionHeld3
import Derived.Deep.DrawnRows
import Derived.Lib.Hide
import Derived.Outline
import Derived.Deep.DeepMust
import Derived.Handy
section
/- chapter 11: a number gone through -/
namespace Go.Proofs.YtienlhnbmobinaaGreat
open Go.RowKit
set_option linter.unusedVariables false
set_option linter.unusedSimpArgs false
/-- The coder's own cells. -/
def KAt (w : World) (gk go : Nat) (c : Cd) : Prop := w.heap[gk]? = some (.cells #[.pointer (some ⟨go, 0, none⟩), .string ⟨c.s.toArray⟩, .int .i64 (c.at_ : Nat), .bool c.rd, .bool c.bad] 130 (0, 0))
theorem one_kept2 (w : World) (gk b i : Nat) (u : Value) : OthersKept w (w.setCell ⟨gk, i, none⟩ u) (fun k => k = gk ∨ k = b) := have h := one_kept w gk i u; ⟨h.os, h.tape, h.output, h.size, fun k hk hn => h.block k hk (fun e => hn (.inl e))⟩
theorem one_kept3 (w : World) (gk b i : Nat) (u : Value) : OthersKept w (w.setCell ⟨b, i, none⟩ u) (fun k => k = gk ∨ k = b) := have h := one_kept w b i u; ⟨h.os, h.tape, h.output, h.size, fun k hk hn => h.block k hk (fun e => hn (.inr e))⟩
theorem set_same {cs : Array Value} {i : Nat} {v : Value} (h : cs[i]? = some v) : cs.setIfInBounds i v = cs := by
  obtain ⟨h1, h2⟩ := Array.getElem?_eq_some_iff.1 h
  apply Array.ext
  · simp
  · intro j h3 h4
    rw [Array.getElem_setIfInBounds]
    split
    · rename_i e; subst e; exact h2.symm
    · rfl
theorem bytes_app (a b : List UInt8) : (⟨a.toArray⟩ : ByteArray) ++ ⟨b.toArray⟩ = ⟨(a ++ b).toArray⟩ := by
  apply bytes_ext
  simp
theorem num_w {o : Od} {s p : List UInt8} {at_ size most : Nat} {bad X : Bool} {v : Int} (hp : p = if 0 ≤ v ∧ v < 256 ^ size then be size v.toNat else []) (hX : X = (bad || !decide (0 ≤ v ∧ v ≤ most))) : (⟨o, s ++ p, at_, false, X⟩ : Cd) = Cd.num ⟨o, s, at_, false, bad⟩ size most v := by
  rw [hp, hX]
  rfl
theorem num_r {o : Od} {s : List UInt8} {at_ size most n : Nat} {bad X : Bool} {v : Int} (hn : n = rdNum s at_ size) (hX : X = (bad || !(decide (at_ + size ≤ s.length) && decide (n ≤ most)))) : (⟨o, s, at_ + size, true, X⟩ : Cd) = Cd.num ⟨o, s, at_, true, bad⟩ size most v := by
  rw [hX, hn]
  rfl
theorem u64_of {v : Int} (h1 : -9223372036854775808 ≤ v) (h2 : v ≤ 9223372036854775807) : ∃ u : Nat, IntKind.u64.wrap v = (u : Int) ∧ u < 256 ^ 8 ∧ (0 ≤ v → (u : Int) = v) ∧ (v < 0 → 9223372036854775808 ≤ u) := by
  rw [IntKind.wrap_u64]
  exact ⟨(v % 18446744073709551616).toNat, by omega, by omega, by omega, by omega⟩
theorem ite_same {α : Type} {p q : Prop} [Decidable p] [Decidable q] {a b c : α} (h : p ↔ q) (e : q → a = b) : (if p then a else c) = if q then b else c := by
  by_cases hq : q
  · rw [if_pos hq, if_pos (h.2 hq), e hq]
  · rw [if_neg hq, if_neg (fun hp => hq (h.1 hp))]
theorem rdNum_lt (l : List UInt8) (a k : Nat) : rdNum l a k < 256 ^ k := by
  unfold rdNum
  split
  · exact un_lt k _ (by rw [List.length_take, List.length_drop]; omega)
  · exact Nat.pow_pos (by omega)
theorem putN_le (k n : Nat) (h : k ≤ 8) : (putN k n).length ≤ 8 := by
  unfold putN
  split
  · rw [be_length]; exact h
  · simp
section
variable {w w' : World} {gk go : Nat} {c : Cd}
theorem KAt.cells (h : KAt w gk go c) : gk < w.heap.size ∧ w.cell? ⟨gk, 0, none⟩ = some (.pointer (some ⟨go, 0, none⟩)) ∧ w.cell? ⟨gk, 1, none⟩ = some (.string ⟨c.s.toArray⟩) ∧ w.cell? ⟨gk, 2, none⟩ = some (.int .i64 (c.at_ : Nat)) ∧ w.cell? ⟨gk, 3, none⟩ = some (.bool c.rd) ∧ w.cell? ⟨gk, 4, none⟩ = some (.bool c.bad) := by
  unfold KAt at h
  exact ⟨blk_lt h, by rw [blk_cell h]; rfl, by rw [blk_cell h]; rfl, by rw [blk_cell h]; rfl, by rw [blk_cell h]; rfl, by rw [blk_cell h]; rfl⟩
theorem KAt.put_w (h : KAt w gk go c) (s' : List UInt8) (X : Bool) : KAt ((w.setCell ⟨gk, 1, none⟩ (.string ⟨s'.toArray⟩)).setCell ⟨gk, 4, none⟩ (.bool X)) gk go ⟨c.o, s', c.at_, c.rd, X⟩ := by
  unfold KAt at *
  have h2 := blk_set (blk_set h 1 (.string ⟨s'.toArray⟩)) 4 (.bool X)
  simpa using h2
theorem KAt.put_r (h : KAt w gk go c) (at' : Nat) (X : Bool) : KAt ((w.setCell ⟨gk, 2, none⟩ (.int .i64 (at' : Nat))).setCell ⟨gk, 4, none⟩ (.bool X)) gk go ⟨c.o, c.s, at', c.rd, X⟩ := by
  unfold KAt at *
  have h2 := blk_set (blk_set h 2 (.int .i64 (at' : Nat))) 4 (.bool X)
  simpa using h2
theorem KAt.far {b i : Nat} {u : Value} (h : KAt w gk go c) (hne : b ≠ gk) : KAt (w.setCell ⟨b, i, none⟩ u) gk go c := set_keep h (fun e => hne e.symm)
theorem KAt.cast {c' : Cd} (h : KAt w gk go c) (e : c = c') : KAt w gk go c' := e ▸ h
theorem KAt.fr (h : KAt w gk go c) (i : Nat) : w.frozen? ⟨gk, i, none⟩ = false := blk_frozen h i
theorem KAt.below (h : KAt w gk go c) (hb : Below w.heap.size w w') : KAt w' gk go c := (hb.block _ (blk_lt h)).trans h
end
set_option maxHeartbeats 4000000 in
set_option maxRecDepth 100000 in
theorem num_u8 (w : World) (gk go b i : Nat) (c : Cd) (cs : Array Value) (T : TypeId) (most : Nat) (v : Nat) (hK : KAt w gk go c) (hB : w.heap[b]? = some (.cells cs T (0, 0))) (hi : cs[i]? = some (.int .u8 (v : Int))) (hne : b ≠ gk) (hv : v < 256) (hs : c.s.length ≤ 900000) (ha : c.at_ ≤ 1900000) (hm : most ≤ 255) :
    Calls Tryz.prog 95 #[.pointer (some ⟨gk, 0, none⟩), .pointer (some ⟨b, i, none⟩), .int .i64 1, .int .u64 (most : Nat)] w fun e w' => e = .returned (.tuple #[]) ∧ KAt w' gk go (c.num 1 most (v : Int)) ∧ w'.heap[b]? = some (.cells (cs.setIfInBounds i (.int .u8 (c.numV 1 (v : Int)))) T (0, 0)) ∧ OthersKept w w' (fun k => k = gk ∨ k = b) := by
  have b0 : w.cell? ⟨b, i, none⟩ = some (.int .u8 (v : Int)) := by rw [blk_cell hB]; exact hi
  have bf : w.frozen? ⟨b, i, none⟩ = false := blk_frozen hB i
  have HB := Lib.hid hB
  have HK := Lib.hid hK
  have HI := Lib.hid hi
  obtain ⟨kl, k0, k1, k2, k3, k4⟩ := hK.cells
  have kf := hK.fr
  have kf1 := kf 1
  have kf2 := kf 2
  have kf4 := kf 4
  clear hB hK hi kf
  obtain ⟨o, s, at_, rd, bad⟩ := c
  simp only at *
  have hbl : b < w.heap.size := blk_lt HB.out
  have PU := Lib.hid fun W => wPut1 v W (by omega)
  have GE := Lib.hid fun W => wGet s at_ 1 W (by omega) (by omega) (by omega) (by omega)
  go_enter Tryz.func95, Tryz.ntmps95
  cases rd with
  | false =>
    have v1 : IntKind.u64.wrap (v : Int) = (v : Int) := IntWalk.u64_in _ ⟨by omega, by omega⟩
    go_wp2_with fail
    obtain ⟨p, hp⟩ : ∃ p, p = putN 1 v := ⟨_, rfl⟩
    have hpl : p.length ≤ 8 := by rw [hp]; first | exact putN_le _ _ (by omega) | (rw [be_length]; omega)
    have hpv0 : p = if 0 ≤ (v : Int) ∧ (v : Int) < 256 ^ 1 then be 1 (v : Int).toNat else [] := by rw [hp]; unfold putN; rw [if_pos (by simpa using hv), if_pos ⟨by omega, by omega⟩]; rfl
    have hpv := Lib.hid hpv0
    clear hpv0
    have hcat : ¬ 9223372036854775807 < s.length + p.length := by omega
    rw [← hp] at PU
    clear hp
    refine (PU.out _).mono ?_
    rintro e w1 ⟨rfl, hb⟩
    have K1 := Lib.hid (HK.out.below hb)
    have B1 := Lib.hid ((hb.block _ hbl).trans HB.out)
    have hb1 : w1.cell? ⟨b, i, none⟩ = some (.int .u8 (v : Int)) := by rw [blk_cell B1.out]; exact HI.out
    obtain ⟨l0, l1, l2, l3, l4, l5⟩ := K1.out.cells
    have lf := K1.out.fr
    have lf1 := lf 1
    have lf4 := lf 4
    clear lf k0 k1 k2 k3 k4 kf1 kf2 kf4 b0 bf
    have FK := Lib.hid fun (X : Bool) => KAt.put_w K1.out (s ++ p) X
    have FB := Lib.hid fun (S : Value) (X : Value) => set_keep (j := 4) (u := X) (set_keep (j := 1) (u := S) B1.out hne) hne
    have FO := Lib.hid fun (S X : Value) => ((OthersKept.of_below (p := fun k => k = gk ∨ k = b) hb).trans (one_kept2 w1 gk b 1 S) (fun _ _ h => h)).trans (one_kept2 (w1.setCell ⟨gk, 1, none⟩ S) gk b 4 X) (fun _ _ h => h)
    have hcs : cs.setIfInBounds i (.int .u8 (v : Int)) = cs := set_same HI.out
    cases bad
    all_goals
      go_wp2_with fail
      (try simp only [Exit.inBlock, Exit.then])
      refine bodyPost_ret (results_none rfl _ _ _) rfl ?_
      rw [bytes_app]
      refine ⟨rfl, ?_, ?_, FO.out _ _⟩
      · exact KAt.cast (FK.out _) (num_w hpv.out (Bool.eq_iff_iff.2 (by simp <;> omega)))
      · simp only [Cd.numV, Bool.false_eq_true, if_false]
        rw [hcs]
        exact FB.out _ _
  | true =>
    have KC := Lib.hid fun W (hW : Below w.heap.size w W) => (⟨keep_cell hW k1, keep_cell hW k2⟩ : W.cell? ⟨gk, 1, none⟩ = some (.string ⟨s.toArray⟩) ∧ W.cell? ⟨gk, 2, none⟩ = some (.int .i64 (at_ : Nat)))
    have D1 : Hid (Below w.heap.size w w.drew) := Lib.hid ((Below.refl _ _).drew)
    go_upto_region 4 with fail
    go_region_held3 (fun W => W.cell? ⟨gk, 1, none⟩ = some (.string ⟨s.toArray⟩) ∧ W.cell? ⟨gk, 2, none⟩ = some (.int .i64 (at_ : Nat)))
      (first
        | (with_reducible exact KC.out _ D1.out)
        | (with_reducible exact KC.out _ hb)
        | exact KC.out _ D1.out)
      (first
        | (go_at_call 47; refine (GE.out _).mono ?_; rintro e w1 ⟨rfl, hb0⟩; have hb := below_then D1.out hb0; clear hb0))
    have K1 := Lib.hid (HK.out.below hb)
    have B1 := Lib.hid ((hb.block _ hbl).trans HB.out)
    have hb1 : w1.cell? ⟨b, i, none⟩ = some (.int .u8 (v : Int)) := by rw [blk_cell B1.out]; exact HI.out
    have hbf : w1.frozen? ⟨b, i, none⟩ = false := blk_frozen B1.out i
    obtain ⟨l0, l1, l2, l3, l4, l5⟩ := K1.out.cells
    have lf := K1.out.fr
    have lf2 := lf 2
    have lf4 := lf 4
    clear lf k0 k1 k2 k3 k4 kf1 kf2 kf4 b0 bf
    have hrn : rdNum s at_ 1 < 256 := by have := rdNum_lt s at_ 1; simpa using this
    have FK := Lib.hid fun (X : Bool) (V : Value) => (KAt.put_r K1.out (at_ + 1) X).far (i := i) (u := V) hne
    have FB := Lib.hid fun (S X V : Value) => blk_set (set_keep (j := 4) (u := X) (set_keep (j := 2) (u := S) B1.out hne) hne) i V
    have FO := Lib.hid fun (S X V : Value) => (((OthersKept.of_below (p := fun k => k = gk ∨ k = b) hb).trans (one_kept2 w1 gk b 2 S) (fun _ _ h => h)).trans (one_kept2 (w1.setCell ⟨gk, 2, none⟩ S) gk b 4 X) (fun _ _ h => h)).trans (one_kept3 ((w1.setCell ⟨gk, 2, none⟩ S).setCell ⟨gk, 4, none⟩ X) gk b i V) (fun _ _ h => h)
    obtain ⟨n, hn⟩ : ∃ n, n = rdNum s at_ 1 := ⟨_, rfl⟩
    rw [← hn] at hrn ⊢
    have HNN := Lib.hid hn
    clear hn hb
    have w1n : IntKind.u8.wrap (n : Int) = (n : Int) := IntWalk.u8_in _ ⟨by omega, by omega⟩
    have w2n : IntKind.i64.wrap ((at_ : Int) + 1) = ((at_ + 1 : Nat) : Int) := by rw [show ((at_ + 1 : Nat) : Int) = (at_ : Int) + 1 by omega]; exact IntWalk.i64_in _ ⟨by omega, by omega⟩
    cases bad
    all_goals
      cases his : decide (at_ + 1 ≤ s.length)
      all_goals
        go_wp2_with fail
        (try simp only [Exit.inBlock, Exit.then])
        refine bodyPost_end (results_none rfl _ _ _) rfl ?_
        refine ⟨rfl, ?_, ?_, FO.out _ _ _⟩
        · exact KAt.cast (FK.out _ _) (num_r HNN.out (by rw [his]; exact Bool.eq_iff_iff.2 (by simp <;> omega)))
        · simp only [Cd.numV, if_true]
          rw [← HNN.out]
          exact FB.out _ _ _
set_option maxHeartbeats 4000000 in
set_option maxRecDepth 100000 in
theorem num_u32 (w : World) (gk go b i : Nat) (c : Cd) (cs : Array Value) (T : TypeId) (most : Nat) (v : Nat) (hK : KAt w gk go c) (hB : w.heap[b]? = some (.cells cs T (0, 0))) (hi : cs[i]? = some (.int .u32 (v : Int))) (hne : b ≠ gk) (hv : v < 256 ^ 4) (hs : c.s.length ≤ 900000) (ha : c.at_ ≤ 1900000) (hm : most ≤ 1024) :
    Calls Tryz.prog 96 #[.pointer (some ⟨gk, 0, none⟩), .pointer (some ⟨b, i, none⟩), .int .i64 4, .int .u64 (most : Nat)] w fun e w' => e = .returned (.tuple #[]) ∧ KAt w' gk go (c.num 4 most (v : Int)) ∧ w'.heap[b]? = some (.cells (cs.setIfInBounds i (.int .u32 (c.numV 4 (v : Int)))) T (0, 0)) ∧ OthersKept w w' (fun k => k = gk ∨ k = b) := by
  have b0 : w.cell? ⟨b, i, none⟩ = some (.int .u32 (v : Int)) := by rw [blk_cell hB]; exact hi
  have bf : w.frozen? ⟨b, i, none⟩ = false := blk_frozen hB i
  have HB := Lib.hid hB
  have HK := Lib.hid hK
  have HI := Lib.hid hi
  obtain ⟨kl, k0, k1, k2, k3, k4⟩ := hK.cells
  have kf := hK.fr
  have kf1 := kf 1
  have kf2 := kf 2
  have kf4 := kf 4
  clear hB hK hi kf
  obtain ⟨o, s, at_, rd, bad⟩ := c
  simp only at *
  have hbl : b < w.heap.size := blk_lt HB.out
  have PU := Lib.hid fun W => put_4 v W (by simpa using hv)
  have GE := Lib.hid fun W => wGet s at_ 4 W (by omega) (by omega) (by omega) (by omega)
  go_enter Tryz.func96, Tryz.ntmps96
  cases rd with
  | false =>
    have v1 : IntKind.u64.wrap (v : Int) = (v : Int) := IntWalk.u64_in _ ⟨by omega, by omega⟩
    go_wp2_with fail
    obtain ⟨p, hp⟩ : ∃ p, p = be 4 v := ⟨_, rfl⟩
    have hpl : p.length ≤ 8 := by rw [hp]; first | exact putN_le _ _ (by omega) | (rw [be_length]; omega)
    have hpv0 : p = if 0 ≤ (v : Int) ∧ (v : Int) < 256 ^ 4 then be 4 (v : Int).toNat else [] := by rw [hp, if_pos ⟨by omega, by simp only [Nat.reducePow] at hv; omega⟩]; rfl
    have hpv := Lib.hid hpv0
    clear hpv0
    have hcat : ¬ 9223372036854775807 < s.length + p.length := by omega
    rw [← hp] at PU
    clear hp
    refine (PU.out _).mono ?_
    rintro e w1 ⟨rfl, hb⟩
    have K1 := Lib.hid (HK.out.below hb)
    have B1 := Lib.hid ((hb.block _ hbl).trans HB.out)
    have hb1 : w1.cell? ⟨b, i, none⟩ = some (.int .u32 (v : Int)) := by rw [blk_cell B1.out]; exact HI.out
    obtain ⟨l0, l1, l2, l3, l4, l5⟩ := K1.out.cells
    have lf := K1.out.fr
    have lf1 := lf 1
    have lf4 := lf 4
    clear lf k0 k1 k2 k3 k4 kf1 kf2 kf4 b0 bf
    have FK := Lib.hid fun (X : Bool) => KAt.put_w K1.out (s ++ p) X
    have FB := Lib.hid fun (S : Value) (X : Value) => set_keep (j := 4) (u := X) (set_keep (j := 1) (u := S) B1.out hne) hne
    have FO := Lib.hid fun (S X : Value) => ((OthersKept.of_below (p := fun k => k = gk ∨ k = b) hb).trans (one_kept2 w1 gk b 1 S) (fun _ _ h => h)).trans (one_kept2 (w1.setCell ⟨gk, 1, none⟩ S) gk b 4 X) (fun _ _ h => h)
    have hcs : cs.setIfInBounds i (.int .u32 (v : Int)) = cs := set_same HI.out
    cases bad
    all_goals
      go_wp2_with fail
      (try simp only [Exit.inBlock, Exit.then])
      refine bodyPost_ret (results_none rfl _ _ _) rfl ?_
      rw [bytes_app]
      refine ⟨rfl, ?_, ?_, FO.out _ _⟩
      · exact KAt.cast (FK.out _) (num_w hpv.out (Bool.eq_iff_iff.2 (by simp <;> omega)))
      · simp only [Cd.numV, Bool.false_eq_true, if_false]
        rw [hcs]
        exact FB.out _ _
  | true =>
    have KC := Lib.hid fun W (hW : Below w.heap.size w W) => (⟨keep_cell hW k1, keep_cell hW k2⟩ : W.cell? ⟨gk, 1, none⟩ = some (.string ⟨s.toArray⟩) ∧ W.cell? ⟨gk, 2, none⟩ = some (.int .i64 (at_ : Nat)))
    have D1 : Hid (Below w.heap.size w w.drew) := Lib.hid ((Below.refl _ _).drew)
    go_upto_region 4 with fail
    go_region_held3 (fun W => W.cell? ⟨gk, 1, none⟩ = some (.string ⟨s.toArray⟩) ∧ W.cell? ⟨gk, 2, none⟩ = some (.int .i64 (at_ : Nat)))
      (first
        | (with_reducible exact KC.out _ D1.out)
        | (with_reducible exact KC.out _ hb)
        | exact KC.out _ D1.out)
      (first
        | (go_at_call 47; refine (GE.out _).mono ?_; rintro e w1 ⟨rfl, hb0⟩; have hb := below_then D1.out hb0; clear hb0))
    have K1 := Lib.hid (HK.out.below hb)
    have B1 := Lib.hid ((hb.block _ hbl).trans HB.out)
    have hb1 : w1.cell? ⟨b, i, none⟩ = some (.int .u32 (v : Int)) := by rw [blk_cell B1.out]; exact HI.out
    have hbf : w1.frozen? ⟨b, i, none⟩ = false := blk_frozen B1.out i
    obtain ⟨l0, l1, l2, l3, l4, l5⟩ := K1.out.cells
    have lf := K1.out.fr
    have lf2 := lf 2
    have lf4 := lf 4
    clear lf k0 k1 k2 k3 k4 kf1 kf2 kf4 b0 bf
    have hrn : rdNum s at_ 4 < 4294967296 := by have := rdNum_lt s at_ 4; simpa using this
    have FK := Lib.hid fun (X : Bool) (V : Value) => (KAt.put_r K1.out (at_ + 4) X).far (i := i) (u := V) hne
    have FB := Lib.hid fun (S X V : Value) => blk_set (set_keep (j := 4) (u := X) (set_keep (j := 2) (u := S) B1.out hne) hne) i V
    have FO := Lib.hid fun (S X V : Value) => (((OthersKept.of_below (p := fun k => k = gk ∨ k = b) hb).trans (one_kept2 w1 gk b 2 S) (fun _ _ h => h)).trans (one_kept2 (w1.setCell ⟨gk, 2, none⟩ S) gk b 4 X) (fun _ _ h => h)).trans (one_kept3 ((w1.setCell ⟨gk, 2, none⟩ S).setCell ⟨gk, 4, none⟩ X) gk b i V) (fun _ _ h => h)
    obtain ⟨n, hn⟩ : ∃ n, n = rdNum s at_ 4 := ⟨_, rfl⟩
    rw [← hn] at hrn ⊢
    have HNN := Lib.hid hn
    clear hn hb
    have w1n : IntKind.u32.wrap (n : Int) = (n : Int) := IntWalk.u32_in _ ⟨by omega, by omega⟩
    have w2n : IntKind.i64.wrap ((at_ : Int) + 4) = ((at_ + 4 : Nat) : Int) := by rw [show ((at_ + 4 : Nat) : Int) = (at_ : Int) + 4 by omega]; exact IntWalk.i64_in _ ⟨by omega, by omega⟩
    cases bad
    all_goals
      cases his : decide (at_ + 4 ≤ s.length)
      all_goals
        go_wp2_with fail
        (try simp only [Exit.inBlock, Exit.then])
        refine bodyPost_end (results_none rfl _ _ _) rfl ?_
        refine ⟨rfl, ?_, ?_, FO.out _ _ _⟩
        · exact KAt.cast (FK.out _ _) (num_r HNN.out (by rw [his]; exact Bool.eq_iff_iff.2 (by simp <;> omega)))
        · simp only [Cd.numV, if_true]
          rw [← HNN.out]
          exact FB.out _ _ _
set_option maxHeartbeats 4000000 in
set_option maxRecDepth 100000 in
theorem num_i64 (w : World) (gk go b i : Nat) (c : Cd) (cs : Array Value) (T : TypeId) (most : Nat) (v : Int) (hK : KAt w gk go c) (hB : w.heap[b]? = some (.cells cs T (0, 0))) (hi : cs[i]? = some (.int .i64 v)) (hne : b ≠ gk) (hv : -9223372036854775808 ≤ v ∧ v ≤ 9223372036854775807) (hs : c.s.length ≤ 900000) (ha : c.at_ ≤ 1900000) (hm : most ≤ 488) :
    Calls Tryz.prog 113 #[.pointer (some ⟨gk, 0, none⟩), .pointer (some ⟨b, i, none⟩), .int .i64 2, .int .u64 (most : Nat)] w fun e w' => e = .returned (.tuple #[]) ∧ KAt w' gk go (c.num 2 most v) ∧ w'.heap[b]? = some (.cells (cs.setIfInBounds i (.int .i64 (c.numV 2 v))) T (0, 0)) ∧ OthersKept w w' (fun k => k = gk ∨ k = b) := by
  have b0 : w.cell? ⟨b, i, none⟩ = some (.int .i64 v) := by rw [blk_cell hB]; exact hi
  have bf : w.frozen? ⟨b, i, none⟩ = false := blk_frozen hB i
  have HB := Lib.hid hB
  have HK := Lib.hid hK
  have HI := Lib.hid hi
  obtain ⟨kl, k0, k1, k2, k3, k4⟩ := hK.cells
  have kf := hK.fr
  have kf1 := kf 1
  have kf2 := kf 2
  have kf4 := kf 4
  clear hB hK hi kf
  obtain ⟨u, hu1, hu2, hu3, hu4⟩ := u64_of hv.1 hv.2
  obtain ⟨o, s, at_, rd, bad⟩ := c
  simp only at *
  have hbl : b < w.heap.size := blk_lt HB.out
  have PU := Lib.hid fun W => wPut2 u W (by omega)
  have GE := Lib.hid fun W => wGet s at_ 2 W (by omega) (by omega) (by omega) (by omega)
  go_enter Tryz.func113, Tryz.ntmps113
  cases rd with
  | false =>
    have v1 : IntKind.u64.wrap v = (u : Int) := hu1
    go_wp2_with fail
    obtain ⟨p, hp⟩ : ∃ p, p = putN 2 u := ⟨_, rfl⟩
    have hpl : p.length ≤ 8 := by rw [hp]; first | exact putN_le _ _ (by omega) | (rw [be_length]; omega)
    have hpv0 : p = if 0 ≤ v ∧ v < 256 ^ 2 then be 2 v.toNat else [] := by rw [hp]; unfold putN; exact ite_same (by simp only [Nat.reducePow, Int.reducePow]; omega) (fun h => by rw [show u = v.toNat by omega])
    have hpv := Lib.hid hpv0
    clear hpv0
    have hcat : ¬ 9223372036854775807 < s.length + p.length := by omega
    rw [← hp] at PU
    clear hp
    refine (PU.out _).mono ?_
    rintro e w1 ⟨rfl, hb⟩
    have K1 := Lib.hid (HK.out.below hb)
    have B1 := Lib.hid ((hb.block _ hbl).trans HB.out)
    have hb1 : w1.cell? ⟨b, i, none⟩ = some (.int .i64 v) := by rw [blk_cell B1.out]; exact HI.out
    obtain ⟨l0, l1, l2, l3, l4, l5⟩ := K1.out.cells
    have lf := K1.out.fr
    have lf1 := lf 1
    have lf4 := lf 4
    clear lf k0 k1 k2 k3 k4 kf1 kf2 kf4 b0 bf
    have FK := Lib.hid fun (X : Bool) => KAt.put_w K1.out (s ++ p) X
    have FB := Lib.hid fun (S : Value) (X : Value) => set_keep (j := 4) (u := X) (set_keep (j := 1) (u := S) B1.out hne) hne
    have FO := Lib.hid fun (S X : Value) => ((OthersKept.of_below (p := fun k => k = gk ∨ k = b) hb).trans (one_kept2 w1 gk b 1 S) (fun _ _ h => h)).trans (one_kept2 (w1.setCell ⟨gk, 1, none⟩ S) gk b 4 X) (fun _ _ h => h)
    have hcs : cs.setIfInBounds i (.int .i64 v) = cs := set_same HI.out
    rcases Int.lt_or_le v 0 with hvn | hvn <;> cases bad <;> cases hiw : decide (u < 65536)
    all_goals (try (exfalso; have hx := of_decide_eq_true hiw; omega))
    all_goals (try (have huv := hu3 hvn))
    all_goals (try (have huv := hu4 hvn))
    all_goals (try (have hux := of_decide_eq_true hiw))
    all_goals (try (have hux := of_decide_eq_false hiw))
    all_goals
      go_wp2_with fail
      (try simp only [Exit.inBlock, Exit.then])
      refine bodyPost_ret (results_none rfl _ _ _) rfl ?_
      rw [bytes_app]
      refine ⟨rfl, ?_, ?_, FO.out _ _⟩
      · exact KAt.cast (FK.out _) (num_w hpv.out (Bool.eq_iff_iff.2 (by simp <;> omega)))
      · simp only [Cd.numV, Bool.false_eq_true, if_false]
        rw [hcs]
        exact FB.out _ _
  | true =>
    have KC := Lib.hid fun W (hW : Below w.heap.size w W) => (⟨keep_cell hW k1, keep_cell hW k2⟩ : W.cell? ⟨gk, 1, none⟩ = some (.string ⟨s.toArray⟩) ∧ W.cell? ⟨gk, 2, none⟩ = some (.int .i64 (at_ : Nat)))
    have D1 : Hid (Below w.heap.size w w.drew) := Lib.hid ((Below.refl _ _).drew)
    go_upto_region 4 with fail
    go_region_held3 (fun W => W.cell? ⟨gk, 1, none⟩ = some (.string ⟨s.toArray⟩) ∧ W.cell? ⟨gk, 2, none⟩ = some (.int .i64 (at_ : Nat)))
      (first
        | (with_reducible exact KC.out _ D1.out)
        | (with_reducible exact KC.out _ hb)
        | exact KC.out _ D1.out)
      (first
        | (go_at_call 47; refine (GE.out _).mono ?_; rintro e w1 ⟨rfl, hb0⟩; have hb := below_then D1.out hb0; clear hb0))
    have K1 := Lib.hid (HK.out.below hb)
    have B1 := Lib.hid ((hb.block _ hbl).trans HB.out)
    have hb1 : w1.cell? ⟨b, i, none⟩ = some (.int .i64 v) := by rw [blk_cell B1.out]; exact HI.out
    have hbf : w1.frozen? ⟨b, i, none⟩ = false := blk_frozen B1.out i
    obtain ⟨l0, l1, l2, l3, l4, l5⟩ := K1.out.cells
    have lf := K1.out.fr
    have lf2 := lf 2
    have lf4 := lf 4
    clear lf k0 k1 k2 k3 k4 kf1 kf2 kf4 b0 bf
    have hrn : rdNum s at_ 2 < 65536 := by have := rdNum_lt s at_ 2; simpa using this
    have FK := Lib.hid fun (X : Bool) (V : Value) => (KAt.put_r K1.out (at_ + 2) X).far (i := i) (u := V) hne
    have FB := Lib.hid fun (S X V : Value) => blk_set (set_keep (j := 4) (u := X) (set_keep (j := 2) (u := S) B1.out hne) hne) i V
    have FO := Lib.hid fun (S X V : Value) => (((OthersKept.of_below (p := fun k => k = gk ∨ k = b) hb).trans (one_kept2 w1 gk b 2 S) (fun _ _ h => h)).trans (one_kept2 (w1.setCell ⟨gk, 2, none⟩ S) gk b 4 X) (fun _ _ h => h)).trans (one_kept3 ((w1.setCell ⟨gk, 2, none⟩ S).setCell ⟨gk, 4, none⟩ X) gk b i V) (fun _ _ h => h)
    obtain ⟨n, hn⟩ : ∃ n, n = rdNum s at_ 2 := ⟨_, rfl⟩
    rw [← hn] at hrn ⊢
    have HNN := Lib.hid hn
    clear hn hb
    have w1n : IntKind.i64.wrap (n : Int) = (n : Int) := IntWalk.i64_in _ ⟨by omega, by omega⟩
    have w2n : IntKind.i64.wrap ((at_ : Int) + 2) = ((at_ + 2 : Nat) : Int) := by rw [show ((at_ + 2 : Nat) : Int) = (at_ : Int) + 2 by omega]; exact IntWalk.i64_in _ ⟨by omega, by omega⟩
    cases bad
    all_goals
      cases his : decide (at_ + 2 ≤ s.length)
      all_goals
        go_wp2_with fail
        (try simp only [Exit.inBlock, Exit.then])
        refine bodyPost_end (results_none rfl _ _ _) rfl ?_
        refine ⟨rfl, ?_, ?_, FO.out _ _ _⟩
        · exact KAt.cast (FK.out _ _) (num_r HNN.out (by rw [his]; exact Bool.eq_iff_iff.2 (by simp <;> omega)))
        · simp only [Cd.numV, if_true]
          rw [← HNN.out]
          exact FB.out _ _ _
end Go.Proofs.YtienlhnbmobinaaGreat
end

section
/- chapter 11: a text gone through -/
namespace Go.Proofs.YtienlhnbmobinaaGreat
open Go.RowKit
set_option linter.unusedVariables false
set_option linter.unusedSimpArgs false
theorem KAt.put_s {w : World} {gk go : Nat} {c : Cd} (h : KAt w gk go c) (s' : List UInt8) : KAt (w.setCell ⟨gk, 1, none⟩ (.string ⟨s'.toArray⟩)) gk go ⟨c.o, s', c.at_, c.rd, c.bad⟩ := by
  unfold KAt at *
  have h2 := blk_set h 1 (.string ⟨s'.toArray⟩)
  simpa using h2
theorem KAt.put_m {w : World} {gk go b i : Nat} {c : Cd} {S : Value} (h : KAt w gk go c) (hne : b ≠ gk) (at' : Nat) (X : Bool) : KAt (((w.setCell ⟨gk, 2, none⟩ (.int .i64 (at' : Nat))).setCell ⟨b, i, none⟩ S).setCell ⟨gk, 4, none⟩ (.bool X)) gk go ⟨c.o, c.s, at', c.rd, X⟩ := by
  unfold KAt at *
  have h1 := blk_set h 2 (.int .i64 (at' : Nat))
  have h3 := blk_set (set_keep (j := i) (u := S) h1 (fun e => hne e.symm)) 4 (.bool X)
  simpa using h3
set_option maxHeartbeats 4000000 in
set_option maxRecDepth 100000 in
theorem piece_any (w : World) (gk go b i : Nat) (c : Cd) (cs : Array Value) (T : TypeId) (t : List UInt8) (hK : KAt w gk go c) (hB : w.heap[b]? = some (.cells cs T (0, 0))) (hi : cs[i]? = some (.string ⟨t.toArray⟩)) (hne : b ≠ gk) (ht : t.length ≤ 900000) (hs : c.s.length ≤ 800000) (ha : c.at_ ≤ 1800000) :
    Calls Tryz.prog 114 #[.pointer (some ⟨gk, 0, none⟩), .pointer (some ⟨b, i, none⟩)] w fun e w' => e = .returned (.tuple #[]) ∧ KAt w' gk go (c.piece t) ∧ w'.heap[b]? = some (.cells (cs.setIfInBounds i (.string ⟨(c.pieceV t).toArray⟩)) T (0, 0)) ∧ OthersKept w w' (fun k => k = gk ∨ k = b) := by
  have hbl : b < w.heap.size := blk_lt hB
  have hkl : gk < w.heap.size := blk_lt hK
  have b0 : w.cell? ⟨b, i, none⟩ = some (.string ⟨t.toArray⟩) := by rw [blk_cell hB]; exact hi
  have HI := Lib.hid hi
  have hN : (w.alloc (.cells #[.int .i64 (t.length : Int)] 3)).heap[w.heap.size]? = some (.cells #[.int .i64 (t.length : Int)] 3 (0, 0)) := heap_alloc_new w _
  have hK0 := heap_keep (o := .cells #[.int .i64 (t.length : Int)] 3) hK
  have hB0 := heap_keep (o := .cells #[.int .i64 (t.length : Int)] 3) hB
  have hA := alloc_below w (.cells #[.int .i64 (t.length : Int)] 3)
  have NU := Lib.hid (num_i64 (w.alloc (.cells #[.int .i64 (t.length : Int)] 3)) gk go w.heap.size 0 c #[.int .i64 (t.length : Int)] 3 488 (t.length : Int) hK0 hN rfl (by omega) ⟨by omega, by omega⟩ (by omega) (by omega) (by omega))
  have HB := Lib.hid hB0
  have HA := Lib.hid hA
  clear hN hK0 hB0 hA hB hK hi
  go_enter Tryz.func114, Tryz.ntmps114
  go_wp2_with fail
  generalize w.alloc (.cells #[.int .i64 (t.length : Int)] 3) = w0 at *
  refine NU.out.mono ?_
  rintro e w1 ⟨rfl, hk, hn, ho⟩
  have K1 := Lib.hid hk
  have N1 := Lib.hid hn
  have B1 := Lib.hid (ho.heap HB.out (fun h => h.elim hne (fun h => by omega)))
  have O1 : Hid (OthersKept w w1 (fun k => k = gk ∨ k = b)) := ⟨ho.os.trans HA.out.os, ho.tape.trans HA.out.tape, ho.output.trans HA.out.output, Nat.le_trans HA.out.size ho.size, fun k hk hn => (ho.block k (Nat.lt_of_lt_of_le hk HA.out.size) (fun h => h.elim (fun h => hn (.inl h)) (fun h => by omega))).trans (HA.out.block k hk)⟩
  clear hk hn ho NU HB HA b0
  obtain ⟨o, s, at_, rd, bad⟩ := c
  have hkk : KAt w1 gk go (Cd.num ⟨o, s, at_, rd, bad⟩ 2 488 (t.length : Int)) := K1.out
  simp only at *
  have b1 : w1.cell? ⟨b, i, none⟩ = some (.string ⟨t.toArray⟩) := by rw [blk_cell B1.out]; exact HI.out
  have bf : w1.frozen? ⟨b, i, none⟩ = false := blk_frozen B1.out i
  have hgn : w.heap.size ≠ gk := by omega
  have hgb : w.heap.size ≠ b := by omega
  cases rd with
  | false =>
    have hcs : cs.setIfInBounds i (.string ⟨t.toArray⟩) = cs := set_same HI.out
    obtain ⟨S1, hS1⟩ : ∃ S1, S1 = Cd.numS ⟨o, s, at_, false, bad⟩ 2 (t.length : Int) := ⟨_, rfl⟩
    obtain ⟨X1, hX1⟩ : ∃ X1, X1 = Cd.numX ⟨o, s, at_, false, bad⟩ 2 488 (t.length : Int) := ⟨_, rfl⟩
    have hS1l : S1.length ≤ 800002 := by
      rw [hS1]
      simp only [Cd.numS, Bool.false_eq_true, if_false]
      rw [List.length_append]
      split
      · rw [be_length]; omega
      · simp; omega
    have hk2 : KAt w1 gk go ⟨o, S1, at_, false, X1⟩ := KAt.cast hkk (by rw [hS1, hX1]; rfl)
    have HP : Hid (Cd.piece ⟨o, s, at_, false, bad⟩ t = ⟨o, S1 ++ t, at_, false, X1⟩) := Lib.hid (by rw [hS1, hX1]; rfl)
    have K2 := Lib.hid hk2
    clear hS1 hX1 hkk K1 hk2 N1
    obtain ⟨l0, l1, l2, l3, l4, l5⟩ := K2.out.cells
    have kf1 := K2.out.fr 1
    simp only at l2 l3 l4 l5
    have hcat : ¬ 9223372036854775807 < S1.length + t.length := by omega
    have hcat2 : S1.length + t.length ≤ 9223372036854775807 := by omega
    have hcat3 : (⟨S1.toArray⟩ : ByteArray).size + (⟨t.toArray⟩ : ByteArray).size ≤ maxLen := by show S1.toArray.size + t.toArray.size ≤ maxLen; unfold maxLen; simp; omega
    go_upto_region 3 with fail
    go_region
    go_wp2_with fail
    (try simp only [Exit.inBlock, Exit.then])
    refine bodyPost_ret (results_none rfl _ _ _) rfl ?_
    rw [bytes_app]
    refine ⟨rfl, ?_, ?_, ?_⟩
    · rw [HP.out]
      exact KAt.put_s K2.out (S1 ++ t)
    · simp only [Cd.pieceV, Bool.false_eq_true, if_false]
      rw [hcs]
      exact set_keep B1.out hne
    · exact (O1.out.trans (one_kept2 w1 gk b 1 _) (fun _ _ h => h)).then_below ((Below.refl _ _).drew)
  | true =>
    obtain ⟨X1, hX1⟩ : ∃ X1, X1 = Cd.numX ⟨o, s, at_, true, bad⟩ 2 488 (t.length : Int) := ⟨_, rfl⟩
    obtain ⟨n, hn⟩ : ∃ n, n = rdNum s at_ 2 := ⟨_, rfl⟩
    have hnl : n < 65536 := by rw [hn]; have := rdNum_lt s at_ 2; simpa using this
    obtain ⟨a1, ha1⟩ : ∃ a1, a1 = at_ + 2 := ⟨_, rfl⟩
    have hal : a1 ≤ 1800002 := by omega
    have hk2 : KAt w1 gk go ⟨o, s, a1, true, X1⟩ := KAt.cast hkk (by rw [hX1, ha1]; rfl)
    have n1 : w1.cell? ⟨w.heap.size, 0, none⟩ = some (.int .i64 (n : Nat)) := by rw [blk_cell N1.out, hn]; rfl
    have HP : Hid (Cd.piece ⟨o, s, at_, true, bad⟩ t = ⟨o, s, a1 + n, true, X1 || !decide (a1 + n ≤ s.length)⟩) := Lib.hid (by rw [hX1, hn, ha1]; rfl)
    have HV : Hid (Cd.pieceV ⟨o, s, at_, true, bad⟩ t = rdText s a1 n) := Lib.hid (by rw [hn, ha1]; rfl)
    have K2 := Lib.hid hk2
    have CU := Lib.hid fun W => wCut s a1 n W (by omega) (by omega) (by omega)
    clear hX1 hkk K1 hk2 N1 hn ha1
    obtain ⟨l0, l1, l2, l3, l4, l5⟩ := K2.out.cells
    have kf := K2.out.fr
    have kf2 := kf 2
    have kf4 := kf 4
    clear kf
    simp only at l2 l3 l4 l5
    go_upto_region 4 with fail
    go_region_held3 (fun W => W.cell? ⟨gk, 1, none⟩ = some (.string ⟨s.toArray⟩) ∧ W.cell? ⟨gk, 2, none⟩ = some (.int .i64 (a1 : Nat)) ∧ W.cell? ⟨w.heap.size, 0, none⟩ = some (.int .i64 (n : Nat)))
      (first
        | (with_reducible exact ⟨l2, l3, n1⟩)
        | exact ⟨l2, l3, n1⟩)
      (first
        | (go_at_call 74; refine (CU.out _).mono ?_; rintro e w2 ⟨rfl, rfl⟩))
    obtain ⟨T', hT⟩ : ∃ T', T' = rdText s a1 n := ⟨_, rfl⟩
    rw [← hT] at HV ⊢
    clear hT
    have hsum : IntKind.i64.wrap ((a1 : Int) + (n : Int)) = ((a1 + n : Nat) : Int) := by rw [show ((a1 + n : Nat) : Int) = (a1 : Int) + (n : Int) by omega]; exact IntWalk.i64_in _ ⟨by omega, by omega⟩
    have FK := Lib.hid fun (S : Value) (X : Bool) => KAt.put_m (i := i) (S := S) K2.out hne (a1 + n) X
    have FB := Lib.hid fun (S S2 X : Value) => set_keep (j := 4) (u := X) (blk_set (set_keep (j := 2) (u := S) B1.out hne) i S2) hne
    have FO := Lib.hid fun (S S2 X : Value) => ((O1.out.trans (one_kept2 w1 gk b 2 S) (fun _ _ h => h)).trans (one_kept3 _ gk b i S2) (fun _ _ h => h)).trans (one_kept2 _ gk b 4 X) (fun _ _ h => h)
    go_upto_region 5 with fail
    go_region
    cases X1
    all_goals
      cases his : decide (a1 + n ≤ s.length)
      all_goals
        go_wp2_with fail
        (try simp only [Exit.inBlock, Exit.then])
        refine bodyPost_end (results_none rfl _ _ _) rfl ?_
        rw [show (a1 : Int) + (n : Int) = ((a1 + n : Nat) : Int) by omega]
        refine ⟨rfl, ?_, ?_, ?_⟩
        · rw [HP.out, his]
          exact FK.out _ _
        · rw [HV.out]
          exact FB.out _ _ _
        · exact (FO.out _ _ _).then_below ((Below.refl _ _).drew.drew)
end Go.Proofs.YtienlhnbmobinaaGreat
end

section
/- chapter 11: the parts of an op -/
namespace Go.Proofs.YtienlhnbmobinaaGreat
open Go.RowKit
set_option linter.unusedVariables false
set_option linter.unusedSimpArgs false
/-- An op's cells in a block. -/
def OAt (w : World) (go : Nat) (o : Od) (sv : Value) : Prop := w.heap[go]? = some (.cells #[.int .u8 o.kind, .int .u32 o.page, .int .i64 o.at_, .int .i64 o.off, .string ⟨o.text.toArray⟩, sv, .int .u8 o.pk, .int .u8 o.lv, .int .u32 o.nx] 40 (0, 0))
/-- The coder, its op, and the op's rows, in memory of their own, above a place. -/
def CAt (w : World) (m gk go : Nat) (c : Cd) : Prop :=
  KAt w gk go c ∧ gk ≠ go ∧ m ≤ gk ∧ m ≤ go ∧ ∃ sv, OAt w go c.o sv ∧ w.ownsRow m 9 1 sv c.o.rows.length (strs c.o.rows) ∧ ∀ j, sv.ownBlock = some j → j ≠ gk ∧ j ≠ go
/-- What a part leaves. -/
def PartPost (w : World) (m gk go : Nat) (c' : Cd) (e : Ending) (w' : World) : Prop := e = .returned (.tuple #[]) ∧ CAt w' m gk go c' ∧ Below m w w'
/-- What a part leaves that goes to no rows. -/
def PartPostK (w : World) (m gk go : Nat) (c' : Cd) (e : Ending) (w' : World) : Prop := PartPost w m gk go c' e w' ∧ OthersKept w w' (fun k => k = gk ∨ k = go)
/-- Bounds of what stands in a coder. -/
def Cd.ok (c : Cd) (B : Nat) : Prop := c.o.wf ∧ c.o.text.length ≤ 65535 ∧ c.o.rows.length ≤ 65535 ∧ (∀ r ∈ c.o.rows, r.length ≤ 65535) ∧ c.s.length ≤ B ∧ c.at_ ≤ B
theorem kept_m {w w' : World} {m gk go : Nat} (h : OthersKept w w' (fun k => k = gk ∨ k = go)) (h1 : m ≤ gk) (h2 : m ≤ go) (hm : m ≤ w.heap.size) : Below m w w' :=
  ⟨h.os, h.tape, h.output, h.size, fun k hk => h.block k (by omega) (fun e => by omega)⟩
theorem CAt.after {w w' : World} {m gk go : Nat} {c' : Cd} {sv : Value} (hk : KAt w' gk go c') (hgg : gk ≠ go) (h1 : m ≤ gk) (h2 : m ≤ go) (ho : OAt w' go c'.o sv) (hr : w.ownsRow m 9 1 sv c'.o.rows.length (strs c'.o.rows)) (hd : ∀ j, sv.ownBlock = some j → j ≠ gk ∧ j ≠ go) (hkp : OthersKept w w' (fun k => k = gk ∨ k = go)) : CAt w' m gk go c' :=
  ⟨hk, hgg, h1, h2, sv, ho, hkp.owns hr (fun j hj e => by have := hd j hj; omega), hd⟩
theorem numV_u (c : Cd) (size : Nat) (v : Nat) : (c.numV size (v : Int)) = ((c.numV size (v : Int)).toNat : Int) := by
  unfold Cd.numV
  split <;> omega
set_option maxHeartbeats 1000000 in
set_option maxRecDepth 100000 in
theorem part_kind (w : World) (m gk go : Nat) (c : Cd) (h : CAt w m gk go c) (hm : m ≤ w.heap.size) (hc : c.ok 800000) :
    Calls Tryz.prog 97 #[.pointer (some ⟨gk, 0, none⟩)] w (PartPostK w m gk go (Part.run .kind c)) := by
  obtain ⟨hk, hgg, h1, h2, sv, ho, hr, hd⟩ := h
  have NU := Lib.hid (num_u8 w gk go go 6 c _ 40 5 c.o.pk hk ho rfl (fun e => hgg e.symm) hc.1.2.2.2.2.1 (Nat.le_trans hc.2.2.2.2.1 (by omega)) (Nat.le_trans hc.2.2.2.2.2 (by omega)) (by omega))
  have HR := Lib.hid hr
  have HD := Lib.hid hd
  have k0 := hk.cells.2.1
  have kl := hk.cells.1
  have gl : go < w.heap.size := blk_lt ho
  clear hk ho hr hd hc
  go_enter Tryz.func97, Tryz.ntmps97
  go_wp2_with fail
  refine NU.out.mono ?_
  rintro e w1 ⟨rfl, hk, ho, hkp⟩
  go_wp2_with fail
  (try simp only [Exit.inBlock, Exit.then])
  refine bodyPost_end (results_none rfl _ _ _) rfl ?_
  rw [numV_u c 1 c.o.pk] at ho
  simp only [List.setIfInBounds_toArray, List.set_cons_zero, List.set_cons_succ] at ho
  exact ⟨⟨rfl, CAt.after (c' := Part.run .kind c) hk hgg h1 h2 ho HR.out HD.out hkp, kept_m hkp h1 h2 hm⟩, hkp⟩
set_option maxHeartbeats 1000000 in
set_option maxRecDepth 100000 in
theorem part_level (w : World) (m gk go : Nat) (c : Cd) (h : CAt w m gk go c) (hm : m ≤ w.heap.size) (hc : c.ok 800000) :
    Calls Tryz.prog 98 #[.pointer (some ⟨gk, 0, none⟩)] w (PartPostK w m gk go (Part.run .level c)) := by
  obtain ⟨hk, hgg, h1, h2, sv, ho, hr, hd⟩ := h
  have NU := Lib.hid (num_u8 w gk go go 7 c _ 40 255 c.o.lv hk ho rfl (fun e => hgg e.symm) hc.1.2.2.2.2.2.1 (Nat.le_trans hc.2.2.2.2.1 (by omega)) (Nat.le_trans hc.2.2.2.2.2 (by omega)) (by omega))
  have HR := Lib.hid hr
  have HD := Lib.hid hd
  have k0 := hk.cells.2.1
  have kl := hk.cells.1
  have gl : go < w.heap.size := blk_lt ho
  clear hk ho hr hd hc
  go_enter Tryz.func98, Tryz.ntmps98
  go_wp2_with fail
  refine NU.out.mono ?_
  rintro e w1 ⟨rfl, hk, ho, hkp⟩
  go_wp2_with fail
  (try simp only [Exit.inBlock, Exit.then])
  refine bodyPost_end (results_none rfl _ _ _) rfl ?_
  rw [numV_u c 1 c.o.lv] at ho
  simp only [List.setIfInBounds_toArray, List.set_cons_zero, List.set_cons_succ] at ho
  exact ⟨⟨rfl, CAt.after (c' := Part.run .level c) hk hgg h1 h2 ho HR.out HD.out hkp, kept_m hkp h1 h2 hm⟩, hkp⟩
set_option maxHeartbeats 1000000 in
set_option maxRecDepth 100000 in
theorem part_next (w : World) (m gk go : Nat) (c : Cd) (h : CAt w m gk go c) (hm : m ≤ w.heap.size) (hc : c.ok 800000) :
    Calls Tryz.prog 99 #[.pointer (some ⟨gk, 0, none⟩)] w (PartPostK w m gk go (Part.run .next c)) := by
  obtain ⟨hk, hgg, h1, h2, sv, ho, hr, hd⟩ := h
  have NU := Lib.hid (num_u32 w gk go go 8 c _ 40 1024 c.o.nx hk ho rfl (fun e => hgg e.symm) hc.1.2.2.2.2.2.2 (Nat.le_trans hc.2.2.2.2.1 (by omega)) (Nat.le_trans hc.2.2.2.2.2 (by omega)) (by omega))
  have HR := Lib.hid hr
  have HD := Lib.hid hd
  have k0 := hk.cells.2.1
  have kl := hk.cells.1
  have gl : go < w.heap.size := blk_lt ho
  clear hk ho hr hd hc
  go_enter Tryz.func99, Tryz.ntmps99
  go_wp2_with fail
  refine NU.out.mono ?_
  rintro e w1 ⟨rfl, hk, ho, hkp⟩
  go_wp2_with fail
  (try simp only [Exit.inBlock, Exit.then])
  refine bodyPost_end (results_none rfl _ _ _) rfl ?_
  rw [numV_u c 4 c.o.nx] at ho
  simp only [List.setIfInBounds_toArray, List.set_cons_zero, List.set_cons_succ] at ho
  exact ⟨⟨rfl, CAt.after (c' := Part.run .next c) hk hgg h1 h2 ho HR.out HD.out hkp, kept_m hkp h1 h2 hm⟩, hkp⟩
set_option maxHeartbeats 1000000 in
set_option maxRecDepth 100000 in
theorem part_place (w : World) (m gk go : Nat) (c : Cd) (h : CAt w m gk go c) (hm : m ≤ w.heap.size) (hc : c.ok 800000) :
    Calls Tryz.prog 100 #[.pointer (some ⟨gk, 0, none⟩)] w (PartPostK w m gk go (Part.run .place c)) := by
  obtain ⟨hk, hgg, h1, h2, sv, ho, hr, hd⟩ := h
  have NU := Lib.hid (num_i64 w gk go go 2 c _ 40 488 c.o.at_ hk ho rfl (fun e => hgg e.symm) hc.1.2.2.1 (Nat.le_trans hc.2.2.2.2.1 (by omega)) (Nat.le_trans hc.2.2.2.2.2 (by omega)) (by omega))
  have HR := Lib.hid hr
  have HD := Lib.hid hd
  have k0 := hk.cells.2.1
  have kl := hk.cells.1
  have gl : go < w.heap.size := blk_lt ho
  clear hk ho hr hd hc
  go_enter Tryz.func100, Tryz.ntmps100
  go_wp2_with fail
  refine NU.out.mono ?_
  rintro e w1 ⟨rfl, hk, ho, hkp⟩
  go_wp2_with fail
  (try simp only [Exit.inBlock, Exit.then])
  refine bodyPost_end (results_none rfl _ _ _) rfl ?_
  skip
  simp only [List.setIfInBounds_toArray, List.set_cons_zero, List.set_cons_succ] at ho
  exact ⟨⟨rfl, CAt.after (c' := Part.run .place c) hk hgg h1 h2 ho HR.out HD.out hkp, kept_m hkp h1 h2 hm⟩, hkp⟩
set_option maxHeartbeats 1000000 in
set_option maxRecDepth 100000 in
theorem part_off (w : World) (m gk go : Nat) (c : Cd) (h : CAt w m gk go c) (hm : m ≤ w.heap.size) (hc : c.ok 800000) :
    Calls Tryz.prog 103 #[.pointer (some ⟨gk, 0, none⟩)] w (PartPostK w m gk go (Part.run .off c)) := by
  obtain ⟨hk, hgg, h1, h2, sv, ho, hr, hd⟩ := h
  have NU := Lib.hid (num_i64 w gk go go 3 c _ 40 488 c.o.off hk ho rfl (fun e => hgg e.symm) hc.1.2.2.2.1 (Nat.le_trans hc.2.2.2.2.1 (by omega)) (Nat.le_trans hc.2.2.2.2.2 (by omega)) (by omega))
  have HR := Lib.hid hr
  have HD := Lib.hid hd
  have k0 := hk.cells.2.1
  have kl := hk.cells.1
  have gl : go < w.heap.size := blk_lt ho
  clear hk ho hr hd hc
  go_enter Tryz.func103, Tryz.ntmps103
  go_wp2_with fail
  refine NU.out.mono ?_
  rintro e w1 ⟨rfl, hk, ho, hkp⟩
  go_wp2_with fail
  (try simp only [Exit.inBlock, Exit.then])
  refine bodyPost_end (results_none rfl _ _ _) rfl ?_
  skip
  simp only [List.setIfInBounds_toArray, List.set_cons_zero, List.set_cons_succ] at ho
  exact ⟨⟨rfl, CAt.after (c' := Part.run .off c) hk hgg h1 h2 ho HR.out HD.out hkp, kept_m hkp h1 h2 hm⟩, hkp⟩
set_option maxHeartbeats 1000000 in
set_option maxRecDepth 100000 in
theorem part_text (w : World) (m gk go : Nat) (c : Cd) (h : CAt w m gk go c) (hm : m ≤ w.heap.size) (hc : c.ok 800000) :
    Calls Tryz.prog 101 #[.pointer (some ⟨gk, 0, none⟩)] w (PartPostK w m gk go (Part.run .text c)) := by
  obtain ⟨hk, hgg, h1, h2, sv, ho, hr, hd⟩ := h
  have NU := Lib.hid (piece_any w gk go go 4 c _ 40 c.o.text hk ho rfl (fun e => hgg e.symm) (Nat.le_trans hc.2.1 (by omega)) hc.2.2.2.2.1 (Nat.le_trans hc.2.2.2.2.2 (by omega)))
  have HR := Lib.hid hr
  have HD := Lib.hid hd
  have k0 := hk.cells.2.1
  have kl := hk.cells.1
  have gl : go < w.heap.size := blk_lt ho
  clear hk ho hr hd hc
  go_enter Tryz.func101, Tryz.ntmps101
  go_wp2_with fail
  refine NU.out.mono ?_
  rintro e w1 ⟨rfl, hk, ho, hkp⟩
  go_wp2_with fail
  (try simp only [Exit.inBlock, Exit.then])
  refine bodyPost_end (results_none rfl _ _ _) rfl ?_
  simp only [List.setIfInBounds_toArray, List.set_cons_zero, List.set_cons_succ] at ho
  exact ⟨⟨rfl, CAt.after (c' := Part.run .text c) hk hgg h1 h2 ho HR.out HD.out hkp, kept_m hkp h1 h2 hm⟩, hkp⟩
end Go.Proofs.YtienlhnbmobinaaGreat
end
