/- chapter 11: a number gone through -/
import Derived.Test.YtienlhnbmobinaaRows
import Derived.Test.YtienlhnbmobinaaOpPlain
import Derived.Test.YtienlhnbmobinaaOpWord
import Derived.Test.YtienlhnbmobinaaBase
import Derived.Test.YtienlhnbmobinaaTextsP
import Derived.Deep.CutBlock
import Derived.WalkKit
import Derived.WalkLawsBesides
import Derived.WalkSpells
import Derived.LoopTactic
import Derived.WalkMore
import Derived.LoopN
import Derived.Laws.BitsAllLaws
import Derived.Laws.IdiomStrings
import Derived.BigQuiet
import Derived.Deep.QuietTactic
import Derived.Deep.DeepCutAuto
import Derived.Deep.RegionHeld3
import Derived.Deep.DrawnRows
import Derived.Lib.Hide
import Derived.Outline
import Derived.Deep.DeepMust
import Derived.Handy
namespace Go.Proofs.Ytienlhnbmobinaa
open Go.RowKit
set_option linter.unusedVariables false
set_option linter.unusedSimpArgs false

/-- The coder's own cells. -/
def KAt (w : World) (gk go : Nat) (c : Cd) : Prop := w.heap[gk]? = some (.cells #[.pointer (some ⟨go, 0, none⟩), .string ⟨c.s.toArray⟩, .int .i64 (c.at_ : Nat), .bool c.rd, .bool c.bad] 206 (0, 0))
theorem one_kept2 (w : World) (gk b i : Nat) (u : Value) : OthersKept w (w.setCell ⟨gk, i, none⟩ u) (fun k => k = gk ∨ k = b) := have h := one_kept w gk i u; ⟨h.os, h.tape, h.output, h.size, fun k hk hn => h.block k hk (fun e => hn (.inl e))⟩
theorem one_kept3 (w : World) (gk b i : Nat) (u : Value) : OthersKept w (w.setCell ⟨b, i, none⟩ u) (fun k => k = gk ∨ k = b) := have h := one_kept w b i u; ⟨h.os, h.tape, h.output, h.size, fun k hk hn => h.block k hk (fun e => hn (.inr e))⟩
theorem set_same {cs : Array Value} {i : Nat} {v : Value} (h : cs[i]? = some v) : cs.setIfInBounds i v = cs := by
  obtain ⟨h1, h2⟩ := Array.getElem?_eq_some_iff.1 h
  apply Array.ext
  · simp
  · intro j h3 h4
    rw [Array.getElem_setIfInBounds]
    split
    · rename_i e; subst e; exact h2.symm
    · rfl
theorem bytes_app (a b : List UInt8) : (⟨a.toArray⟩ : ByteArray) ++ ⟨b.toArray⟩ = ⟨(a ++ b).toArray⟩ := by
  apply bytes_ext
  simp
theorem num_w {o : Od} {s p : List UInt8} {at_ size most : Nat} {bad X : Bool} {v : Int} (hp : p = if 0 ≤ v ∧ v < 256 ^ size then be size v.toNat else []) (hX : X = (bad || !decide (0 ≤ v ∧ v ≤ most))) : (⟨o, s ++ p, at_, false, X⟩ : Cd) = Cd.num ⟨o, s, at_, false, bad⟩ size most v := by
  rw [hp, hX]
  rfl
theorem num_r {o : Od} {s : List UInt8} {at_ size most n : Nat} {bad X : Bool} {v : Int} (hn : n = rdNum s at_ size) (hX : X = (bad || !(decide (at_ + size ≤ s.length) && decide (n ≤ most)))) : (⟨o, s, at_ + size, true, X⟩ : Cd) = Cd.num ⟨o, s, at_, true, bad⟩ size most v := by
  rw [hX, hn]
  rfl
theorem u64_of {v : Int} (h1 : -9223372036854775808 ≤ v) (h2 : v ≤ 9223372036854775807) : ∃ u : Nat, IntKind.u64.wrap v = (u : Int) ∧ u < 256 ^ 8 ∧ (0 ≤ v → (u : Int) = v) ∧ (v < 0 → 9223372036854775808 ≤ u) := by
  rw [IntKind.wrap_u64]
  exact ⟨(v % 18446744073709551616).toNat, by omega, by omega, by omega, by omega⟩
theorem ite_same {α : Type} {p q : Prop} [Decidable p] [Decidable q] {a b c : α} (h : p ↔ q) (e : q → a = b) : (if p then a else c) = if q then b else c := by
  by_cases hq : q
  · rw [if_pos hq, if_pos (h.2 hq), e hq]
  · rw [if_neg hq, if_neg (fun hp => hq (h.1 hp))]
theorem rdNum_lt (l : List UInt8) (a k : Nat) : rdNum l a k < 256 ^ k := by
  unfold rdNum
  split
  · exact un_lt k _ (by rw [List.length_take, List.length_drop]; omega)
  · exact Nat.pow_pos (by omega)
theorem putN_le (k n : Nat) (h : k ≤ 8) : (putN k n).length ≤ 8 := by
  unfold putN
  split
  · rw [be_length]; exact h
  · simp
section
variable {w w' : World} {gk go : Nat} {c : Cd}
theorem KAt.cells (h : KAt w gk go c) : gk < w.heap.size ∧ w.cell? ⟨gk, 0, none⟩ = some (.pointer (some ⟨go, 0, none⟩)) ∧ w.cell? ⟨gk, 1, none⟩ = some (.string ⟨c.s.toArray⟩) ∧ w.cell? ⟨gk, 2, none⟩ = some (.int .i64 (c.at_ : Nat)) ∧ w.cell? ⟨gk, 3, none⟩ = some (.bool c.rd) ∧ w.cell? ⟨gk, 4, none⟩ = some (.bool c.bad) := by
  unfold KAt at h
  exact ⟨blk_lt h, by rw [blk_cell h]; rfl, by rw [blk_cell h]; rfl, by rw [blk_cell h]; rfl, by rw [blk_cell h]; rfl, by rw [blk_cell h]; rfl⟩
theorem KAt.put_w (h : KAt w gk go c) (s' : List UInt8) (X : Bool) : KAt ((w.setCell ⟨gk, 1, none⟩ (.string ⟨s'.toArray⟩)).setCell ⟨gk, 4, none⟩ (.bool X)) gk go ⟨c.o, s', c.at_, c.rd, X⟩ := by
  unfold KAt at *
  have h2 := blk_set (blk_set h 1 (.string ⟨s'.toArray⟩)) 4 (.bool X)
  simpa using h2
theorem KAt.put_r (h : KAt w gk go c) (at' : Nat) (X : Bool) : KAt ((w.setCell ⟨gk, 2, none⟩ (.int .i64 (at' : Nat))).setCell ⟨gk, 4, none⟩ (.bool X)) gk go ⟨c.o, c.s, at', c.rd, X⟩ := by
  unfold KAt at *
  have h2 := blk_set (blk_set h 2 (.int .i64 (at' : Nat))) 4 (.bool X)
  simpa using h2
theorem KAt.far {b i : Nat} {u : Value} (h : KAt w gk go c) (hne : b ≠ gk) : KAt (w.setCell ⟨b, i, none⟩ u) gk go c := set_keep h (fun e => hne e.symm)
theorem KAt.cast {c' : Cd} (h : KAt w gk go c) (e : c = c') : KAt w gk go c' := e ▸ h
theorem KAt.fr (h : KAt w gk go c) (i : Nat) : w.frozen? ⟨gk, i, none⟩ = false := blk_frozen h i
theorem KAt.below (h : KAt w gk go c) (hb : Below w.heap.size w w') : KAt w' gk go c := (hb.block _ (blk_lt h)).trans h
end
set_option maxHeartbeats 4000000 in
set_option maxRecDepth 100000 in
theorem num_u8 (w : World) (gk go b i : Nat) (c : Cd) (cs : Array Value) (T : TypeId) (most : Nat) (v : Nat) (hK : KAt w gk go c) (hB : w.heap[b]? = some (.cells cs T (0, 0))) (hi : cs[i]? = some (.int .u8 (v : Int))) (hne : b ≠ gk) (hv : v < 256) (hs : c.s.length ≤ 900000) (ha : c.at_ ≤ 1900000) (hm : most ≤ 255) :
    Calls Try.prog 198 #[.pointer (some ⟨gk, 0, none⟩), .pointer (some ⟨b, i, none⟩), .int .i64 1, .int .u64 (most : Nat)] w fun e w' => e = .returned (.tuple #[]) ∧ KAt w' gk go (c.num 1 most (v : Int)) ∧ w'.heap[b]? = some (.cells (cs.setIfInBounds i (.int .u8 (c.numV 1 (v : Int)))) T (0, 0)) ∧ OthersKept w w' (fun k => k = gk ∨ k = b) := by
  have b0 : w.cell? ⟨b, i, none⟩ = some (.int .u8 (v : Int)) := by rw [blk_cell hB]; exact hi
  have bf : w.frozen? ⟨b, i, none⟩ = false := blk_frozen hB i
  have HB := Lib.hid hB
  have HK := Lib.hid hK
  have HI := Lib.hid hi
  obtain ⟨kl, k0, k1, k2, k3, k4⟩ := hK.cells
  have kf := hK.fr
  have kf1 := kf 1
  have kf2 := kf 2
  have kf4 := kf 4
  clear hB hK hi kf
  obtain ⟨o, s, at_, rd, bad⟩ := c
  simp only at *
  have hbl : b < w.heap.size := blk_lt HB.out
  have PU := Lib.hid fun W => wPut1 v W (by omega)
  have GE := Lib.hid fun W => wGet s at_ 1 W (by omega) (by omega) (by omega) (by omega)
  go_enter Try.func198, Try.ntmps198
  cases rd with
  | false =>
    have v1 : IntKind.u64.wrap (v : Int) = (v : Int) := IntWalk.u64_in _ ⟨by omega, by omega⟩
    go_wp2_with fail
    obtain ⟨p, hp⟩ : ∃ p, p = putN 1 v := ⟨_, rfl⟩
    have hpl : p.length ≤ 8 := by rw [hp]; first | exact putN_le _ _ (by omega) | (rw [be_length]; omega)
    have hpv0 : p = if 0 ≤ (v : Int) ∧ (v : Int) < 256 ^ 1 then be 1 (v : Int).toNat else [] := by rw [hp]; unfold putN; rw [if_pos (by simpa using hv), if_pos ⟨by omega, by omega⟩]; rfl
    have hpv := Lib.hid hpv0
    clear hpv0
    have hcat : ¬ 9223372036854775807 < s.length + p.length := by omega
    rw [← hp] at PU
    clear hp
    refine (PU.out _).mono ?_
    rintro e w1 ⟨rfl, hb⟩
    have K1 := Lib.hid (HK.out.below hb)
    have B1 := Lib.hid ((hb.block _ hbl).trans HB.out)
    have hb1 : w1.cell? ⟨b, i, none⟩ = some (.int .u8 (v : Int)) := by rw [blk_cell B1.out]; exact HI.out
    obtain ⟨l0, l1, l2, l3, l4, l5⟩ := K1.out.cells
    have lf := K1.out.fr
    have lf1 := lf 1
    have lf4 := lf 4
    clear lf k0 k1 k2 k3 k4 kf1 kf2 kf4 b0 bf
    have FK := Lib.hid fun (X : Bool) => KAt.put_w K1.out (s ++ p) X
    have FB := Lib.hid fun (S : Value) (X : Value) => set_keep (j := 4) (u := X) (set_keep (j := 1) (u := S) B1.out hne) hne
    have FO := Lib.hid fun (S X : Value) => ((OthersKept.of_below (p := fun k => k = gk ∨ k = b) hb).trans (one_kept2 w1 gk b 1 S) (fun _ _ h => h)).trans (one_kept2 (w1.setCell ⟨gk, 1, none⟩ S) gk b 4 X) (fun _ _ h => h)
    have hcs : cs.setIfInBounds i (.int .u8 (v : Int)) = cs := set_same HI.out
    cases bad
    all_goals
      go_wp2_with fail
      (try simp only [Exit.inBlock, Exit.then])
      refine bodyPost_ret (results_none rfl _ _ _) rfl ?_
      rw [bytes_app]
      refine ⟨rfl, ?_, ?_, FO.out _ _⟩
      · exact KAt.cast (FK.out _) (num_w hpv.out (Bool.eq_iff_iff.2 (by simp <;> omega)))
      · simp only [Cd.numV, Bool.false_eq_true, if_false]
        rw [hcs]
        exact FB.out _ _
  | true =>
    have KC := Lib.hid fun W (hW : Below w.heap.size w W) => (⟨keep_cell hW k1, keep_cell hW k2⟩ : W.cell? ⟨gk, 1, none⟩ = some (.string ⟨s.toArray⟩) ∧ W.cell? ⟨gk, 2, none⟩ = some (.int .i64 (at_ : Nat)))
    have D1 : Hid (Below w.heap.size w w.drew) := Lib.hid ((Below.refl _ _).drew)
    go_upto_region 4 with fail
    go_region_held3 (fun W => W.cell? ⟨gk, 1, none⟩ = some (.string ⟨s.toArray⟩) ∧ W.cell? ⟨gk, 2, none⟩ = some (.int .i64 (at_ : Nat)))
      (first
        | (with_reducible exact KC.out _ D1.out)
        | (with_reducible exact KC.out _ hb)
        | exact KC.out _ D1.out)
      (first
        | (go_at_call 121; refine (GE.out _).mono ?_; rintro e w1 ⟨rfl, hb0⟩; have hb := below_then D1.out hb0; clear hb0))
    have K1 := Lib.hid (HK.out.below hb)
    have B1 := Lib.hid ((hb.block _ hbl).trans HB.out)
    have hb1 : w1.cell? ⟨b, i, none⟩ = some (.int .u8 (v : Int)) := by rw [blk_cell B1.out]; exact HI.out
    have hbf : w1.frozen? ⟨b, i, none⟩ = false := blk_frozen B1.out i
    obtain ⟨l0, l1, l2, l3, l4, l5⟩ := K1.out.cells
    have lf := K1.out.fr
    have lf2 := lf 2
    have lf4 := lf 4
    clear lf k0 k1 k2 k3 k4 kf1 kf2 kf4 b0 bf
    have hrn : rdNum s at_ 1 < 256 := by have := rdNum_lt s at_ 1; simpa using this
    have FK := Lib.hid fun (X : Bool) (V : Value) => (KAt.put_r K1.out (at_ + 1) X).far (i := i) (u := V) hne
    have FB := Lib.hid fun (S X V : Value) => blk_set (set_keep (j := 4) (u := X) (set_keep (j := 2) (u := S) B1.out hne) hne) i V
    have FO := Lib.hid fun (S X V : Value) => (((OthersKept.of_below (p := fun k => k = gk ∨ k = b) hb).trans (one_kept2 w1 gk b 2 S) (fun _ _ h => h)).trans (one_kept2 (w1.setCell ⟨gk, 2, none⟩ S) gk b 4 X) (fun _ _ h => h)).trans (one_kept3 ((w1.setCell ⟨gk, 2, none⟩ S).setCell ⟨gk, 4, none⟩ X) gk b i V) (fun _ _ h => h)
    obtain ⟨n, hn⟩ : ∃ n, n = rdNum s at_ 1 := ⟨_, rfl⟩
    rw [← hn] at hrn ⊢
    have HNN := Lib.hid hn
    clear hn hb
    have w1n : IntKind.u8.wrap (n : Int) = (n : Int) := IntWalk.u8_in _ ⟨by omega, by omega⟩
    have w2n : IntKind.i64.wrap ((at_ : Int) + 1) = ((at_ + 1 : Nat) : Int) := by rw [show ((at_ + 1 : Nat) : Int) = (at_ : Int) + 1 by omega]; exact IntWalk.i64_in _ ⟨by omega, by omega⟩
    cases bad
    all_goals
      cases his : decide (at_ + 1 ≤ s.length)
      all_goals
        go_wp2_with fail
        (try simp only [Exit.inBlock, Exit.then])
        refine bodyPost_end (results_none rfl _ _ _) rfl ?_
        refine ⟨rfl, ?_, ?_, FO.out _ _ _⟩
        · exact KAt.cast (FK.out _ _) (num_r HNN.out (by rw [his]; exact Bool.eq_iff_iff.2 (by simp <;> omega)))
        · simp only [Cd.numV, if_true]
          rw [← HNN.out]
          exact FB.out _ _ _
set_option maxHeartbeats 4000000 in
set_option maxRecDepth 100000 in
theorem num_u32 (w : World) (gk go b i : Nat) (c : Cd) (cs : Array Value) (T : TypeId) (most : Nat) (v : Nat) (hK : KAt w gk go c) (hB : w.heap[b]? = some (.cells cs T (0, 0))) (hi : cs[i]? = some (.int .u32 (v : Int))) (hne : b ≠ gk) (hv : v < 256 ^ 4) (hs : c.s.length ≤ 900000) (ha : c.at_ ≤ 1900000) (hm : most ≤ 1024) :
    Calls Try.prog 199 #[.pointer (some ⟨gk, 0, none⟩), .pointer (some ⟨b, i, none⟩), .int .i64 4, .int .u64 (most : Nat)] w fun e w' => e = .returned (.tuple #[]) ∧ KAt w' gk go (c.num 4 most (v : Int)) ∧ w'.heap[b]? = some (.cells (cs.setIfInBounds i (.int .u32 (c.numV 4 (v : Int)))) T (0, 0)) ∧ OthersKept w w' (fun k => k = gk ∨ k = b) := by
  have b0 : w.cell? ⟨b, i, none⟩ = some (.int .u32 (v : Int)) := by rw [blk_cell hB]; exact hi
  have bf : w.frozen? ⟨b, i, none⟩ = false := blk_frozen hB i
  have HB := Lib.hid hB
  have HK := Lib.hid hK
  have HI := Lib.hid hi
  obtain ⟨kl, k0, k1, k2, k3, k4⟩ := hK.cells
  have kf := hK.fr
  have kf1 := kf 1
  have kf2 := kf 2
  have kf4 := kf 4
  clear hB hK hi kf
  obtain ⟨o, s, at_, rd, bad⟩ := c
  simp only at *
  have hbl : b < w.heap.size := blk_lt HB.out
  have PU := Lib.hid fun W => put_4 v W (by simpa using hv)
  have GE := Lib.hid fun W => wGet s at_ 4 W (by omega) (by omega) (by omega) (by omega)
  go_enter Try.func199, Try.ntmps199
  cases rd with
  | false =>
    have v1 : IntKind.u64.wrap (v : Int) = (v : Int) := IntWalk.u64_in _ ⟨by omega, by omega⟩
    go_wp2_with fail
    obtain ⟨p, hp⟩ : ∃ p, p = be 4 v := ⟨_, rfl⟩
    have hpl : p.length ≤ 8 := by rw [hp]; first | exact putN_le _ _ (by omega) | (rw [be_length]; omega)
    have hpv0 : p = if 0 ≤ (v : Int) ∧ (v : Int) < 256 ^ 4 then be 4 (v : Int).toNat else [] := by rw [hp, if_pos ⟨by omega, by simp only [Nat.reducePow] at hv; omega⟩]; rfl
    have hpv := Lib.hid hpv0
    clear hpv0
    have hcat : ¬ 9223372036854775807 < s.length + p.length := by omega
    rw [← hp] at PU
    clear hp
    refine (PU.out _).mono ?_
    rintro e w1 ⟨rfl, hb⟩
    have K1 := Lib.hid (HK.out.below hb)
    have B1 := Lib.hid ((hb.block _ hbl).trans HB.out)
    have hb1 : w1.cell? ⟨b, i, none⟩ = some (.int .u32 (v : Int)) := by rw [blk_cell B1.out]; exact HI.out
    obtain ⟨l0, l1, l2, l3, l4, l5⟩ := K1.out.cells
    have lf := K1.out.fr
    have lf1 := lf 1
    have lf4 := lf 4
    clear lf k0 k1 k2 k3 k4 kf1 kf2 kf4 b0 bf
    have FK := Lib.hid fun (X : Bool) => KAt.put_w K1.out (s ++ p) X
    have FB := Lib.hid fun (S : Value) (X : Value) => set_keep (j := 4) (u := X) (set_keep (j := 1) (u := S) B1.out hne) hne
    have FO := Lib.hid fun (S X : Value) => ((OthersKept.of_below (p := fun k => k = gk ∨ k = b) hb).trans (one_kept2 w1 gk b 1 S) (fun _ _ h => h)).trans (one_kept2 (w1.setCell ⟨gk, 1, none⟩ S) gk b 4 X) (fun _ _ h => h)
    have hcs : cs.setIfInBounds i (.int .u32 (v : Int)) = cs := set_same HI.out
    cases bad
    all_goals
      go_wp2_with fail
      (try simp only [Exit.inBlock, Exit.then])
      refine bodyPost_ret (results_none rfl _ _ _) rfl ?_
      rw [bytes_app]
      refine ⟨rfl, ?_, ?_, FO.out _ _⟩
      · exact KAt.cast (FK.out _) (num_w hpv.out (Bool.eq_iff_iff.2 (by simp <;> omega)))
      · simp only [Cd.numV, Bool.false_eq_true, if_false]
        rw [hcs]
        exact FB.out _ _
  | true =>
    have KC := Lib.hid fun W (hW : Below w.heap.size w W) => (⟨keep_cell hW k1, keep_cell hW k2⟩ : W.cell? ⟨gk, 1, none⟩ = some (.string ⟨s.toArray⟩) ∧ W.cell? ⟨gk, 2, none⟩ = some (.int .i64 (at_ : Nat)))
    have D1 : Hid (Below w.heap.size w w.drew) := Lib.hid ((Below.refl _ _).drew)
    go_upto_region 4 with fail
    go_region_held3 (fun W => W.cell? ⟨gk, 1, none⟩ = some (.string ⟨s.toArray⟩) ∧ W.cell? ⟨gk, 2, none⟩ = some (.int .i64 (at_ : Nat)))
      (first
        | (with_reducible exact KC.out _ D1.out)
        | (with_reducible exact KC.out _ hb)
        | exact KC.out _ D1.out)
      (first
        | (go_at_call 121; refine (GE.out _).mono ?_; rintro e w1 ⟨rfl, hb0⟩; have hb := below_then D1.out hb0; clear hb0))
    have K1 := Lib.hid (HK.out.below hb)
    have B1 := Lib.hid ((hb.block _ hbl).trans HB.out)
    have hb1 : w1.cell? ⟨b, i, none⟩ = some (.int .u32 (v : Int)) := by rw [blk_cell B1.out]; exact HI.out
    have hbf : w1.frozen? ⟨b, i, none⟩ = false := blk_frozen B1.out i
    obtain ⟨l0, l1, l2, l3, l4, l5⟩ := K1.out.cells
    have lf := K1.out.fr
    have lf2 := lf 2
    have lf4 := lf 4
    clear lf k0 k1 k2 k3 k4 kf1 kf2 kf4 b0 bf
    have hrn : rdNum s at_ 4 < 4294967296 := by have := rdNum_lt s at_ 4; simpa using this
    have FK := Lib.hid fun (X : Bool) (V : Value) => (KAt.put_r K1.out (at_ + 4) X).far (i := i) (u := V) hne
    have FB := Lib.hid fun (S X V : Value) => blk_set (set_keep (j := 4) (u := X) (set_keep (j := 2) (u := S) B1.out hne) hne) i V
    have FO := Lib.hid fun (S X V : Value) => (((OthersKept.of_below (p := fun k => k = gk ∨ k = b) hb).trans (one_kept2 w1 gk b 2 S) (fun _ _ h => h)).trans (one_kept2 (w1.setCell ⟨gk, 2, none⟩ S) gk b 4 X) (fun _ _ h => h)).trans (one_kept3 ((w1.setCell ⟨gk, 2, none⟩ S).setCell ⟨gk, 4, none⟩ X) gk b i V) (fun _ _ h => h)
    obtain ⟨n, hn⟩ : ∃ n, n = rdNum s at_ 4 := ⟨_, rfl⟩
    rw [← hn] at hrn ⊢
    have HNN := Lib.hid hn
    clear hn hb
    have w1n : IntKind.u32.wrap (n : Int) = (n : Int) := IntWalk.u32_in _ ⟨by omega, by omega⟩
    have w2n : IntKind.i64.wrap ((at_ : Int) + 4) = ((at_ + 4 : Nat) : Int) := by rw [show ((at_ + 4 : Nat) : Int) = (at_ : Int) + 4 by omega]; exact IntWalk.i64_in _ ⟨by omega, by omega⟩
    cases bad
    all_goals
      cases his : decide (at_ + 4 ≤ s.length)
      all_goals
        go_wp2_with fail
        (try simp only [Exit.inBlock, Exit.then])
        refine bodyPost_end (results_none rfl _ _ _) rfl ?_
        refine ⟨rfl, ?_, ?_, FO.out _ _ _⟩
        · exact KAt.cast (FK.out _ _) (num_r HNN.out (by rw [his]; exact Bool.eq_iff_iff.2 (by simp <;> omega)))
        · simp only [Cd.numV, if_true]
          rw [← HNN.out]
          exact FB.out _ _ _
set_option maxHeartbeats 4000000 in
set_option maxRecDepth 100000 in
theorem num_i64 (w : World) (gk go b i : Nat) (c : Cd) (cs : Array Value) (T : TypeId) (most : Nat) (v : Int) (hK : KAt w gk go c) (hB : w.heap[b]? = some (.cells cs T (0, 0))) (hi : cs[i]? = some (.int .i64 v)) (hne : b ≠ gk) (hv : -9223372036854775808 ≤ v ∧ v ≤ 9223372036854775807) (hs : c.s.length ≤ 900000) (ha : c.at_ ≤ 1900000) (hm : most ≤ 488) :
    Calls Try.prog 214 #[.pointer (some ⟨gk, 0, none⟩), .pointer (some ⟨b, i, none⟩), .int .i64 2, .int .u64 (most : Nat)] w fun e w' => e = .returned (.tuple #[]) ∧ KAt w' gk go (c.num 2 most v) ∧ w'.heap[b]? = some (.cells (cs.setIfInBounds i (.int .i64 (c.numV 2 v))) T (0, 0)) ∧ OthersKept w w' (fun k => k = gk ∨ k = b) := by
  have b0 : w.cell? ⟨b, i, none⟩ = some (.int .i64 v) := by rw [blk_cell hB]; exact hi
  have bf : w.frozen? ⟨b, i, none⟩ = false := blk_frozen hB i
  have HB := Lib.hid hB
  have HK := Lib.hid hK
  have HI := Lib.hid hi
  obtain ⟨kl, k0, k1, k2, k3, k4⟩ := hK.cells
  have kf := hK.fr
  have kf1 := kf 1
  have kf2 := kf 2
  have kf4 := kf 4
  clear hB hK hi kf
  obtain ⟨u, hu1, hu2, hu3, hu4⟩ := u64_of hv.1 hv.2
  obtain ⟨o, s, at_, rd, bad⟩ := c
  simp only at *
  have hbl : b < w.heap.size := blk_lt HB.out
  have PU := Lib.hid fun W => wPut2 u W (by omega)
  have GE := Lib.hid fun W => wGet s at_ 2 W (by omega) (by omega) (by omega) (by omega)
  go_enter Try.func214, Try.ntmps214
  cases rd with
  | false =>
    have v1 : IntKind.u64.wrap v = (u : Int) := hu1
    go_wp2_with fail
    obtain ⟨p, hp⟩ : ∃ p, p = putN 2 u := ⟨_, rfl⟩
    have hpl : p.length ≤ 8 := by rw [hp]; first | exact putN_le _ _ (by omega) | (rw [be_length]; omega)
    have hpv0 : p = if 0 ≤ v ∧ v < 256 ^ 2 then be 2 v.toNat else [] := by rw [hp]; unfold putN; exact ite_same (by simp only [Nat.reducePow, Int.reducePow]; omega) (fun h => by rw [show u = v.toNat by omega])
    have hpv := Lib.hid hpv0
    clear hpv0
    have hcat : ¬ 9223372036854775807 < s.length + p.length := by omega
    rw [← hp] at PU
    clear hp
    refine (PU.out _).mono ?_
    rintro e w1 ⟨rfl, hb⟩
    have K1 := Lib.hid (HK.out.below hb)
    have B1 := Lib.hid ((hb.block _ hbl).trans HB.out)
    have hb1 : w1.cell? ⟨b, i, none⟩ = some (.int .i64 v) := by rw [blk_cell B1.out]; exact HI.out
    obtain ⟨l0, l1, l2, l3, l4, l5⟩ := K1.out.cells
    have lf := K1.out.fr
    have lf1 := lf 1
    have lf4 := lf 4
    clear lf k0 k1 k2 k3 k4 kf1 kf2 kf4 b0 bf
    have FK := Lib.hid fun (X : Bool) => KAt.put_w K1.out (s ++ p) X
    have FB := Lib.hid fun (S : Value) (X : Value) => set_keep (j := 4) (u := X) (set_keep (j := 1) (u := S) B1.out hne) hne
    have FO := Lib.hid fun (S X : Value) => ((OthersKept.of_below (p := fun k => k = gk ∨ k = b) hb).trans (one_kept2 w1 gk b 1 S) (fun _ _ h => h)).trans (one_kept2 (w1.setCell ⟨gk, 1, none⟩ S) gk b 4 X) (fun _ _ h => h)
    have hcs : cs.setIfInBounds i (.int .i64 v) = cs := set_same HI.out
    rcases Int.lt_or_le v 0 with hvn | hvn <;> cases bad <;> cases hiw : decide (u < 65536)
    all_goals (try (exfalso; have hx := of_decide_eq_true hiw; omega))
    all_goals (try (have huv := hu3 hvn))
    all_goals (try (have huv := hu4 hvn))
    all_goals (try (have hux := of_decide_eq_true hiw))
    all_goals (try (have hux := of_decide_eq_false hiw))
    all_goals
      go_wp2_with fail
      (try simp only [Exit.inBlock, Exit.then])
      refine bodyPost_ret (results_none rfl _ _ _) rfl ?_
      rw [bytes_app]
      refine ⟨rfl, ?_, ?_, FO.out _ _⟩
      · exact KAt.cast (FK.out _) (num_w hpv.out (Bool.eq_iff_iff.2 (by simp <;> omega)))
      · simp only [Cd.numV, Bool.false_eq_true, if_false]
        rw [hcs]
        exact FB.out _ _
  | true =>
    have KC := Lib.hid fun W (hW : Below w.heap.size w W) => (⟨keep_cell hW k1, keep_cell hW k2⟩ : W.cell? ⟨gk, 1, none⟩ = some (.string ⟨s.toArray⟩) ∧ W.cell? ⟨gk, 2, none⟩ = some (.int .i64 (at_ : Nat)))
    have D1 : Hid (Below w.heap.size w w.drew) := Lib.hid ((Below.refl _ _).drew)
    go_upto_region 4 with fail
    go_region_held3 (fun W => W.cell? ⟨gk, 1, none⟩ = some (.string ⟨s.toArray⟩) ∧ W.cell? ⟨gk, 2, none⟩ = some (.int .i64 (at_ : Nat)))
      (first
        | (with_reducible exact KC.out _ D1.out)
        | (with_reducible exact KC.out _ hb)
        | exact KC.out _ D1.out)
      (first
        | (go_at_call 121; refine (GE.out _).mono ?_; rintro e w1 ⟨rfl, hb0⟩; have hb := below_then D1.out hb0; clear hb0))
    have K1 := Lib.hid (HK.out.below hb)
    have B1 := Lib.hid ((hb.block _ hbl).trans HB.out)
    have hb1 : w1.cell? ⟨b, i, none⟩ = some (.int .i64 v) := by rw [blk_cell B1.out]; exact HI.out
    have hbf : w1.frozen? ⟨b, i, none⟩ = false := blk_frozen B1.out i
    obtain ⟨l0, l1, l2, l3, l4, l5⟩ := K1.out.cells
    have lf := K1.out.fr
    have lf2 := lf 2
    have lf4 := lf 4
    clear lf k0 k1 k2 k3 k4 kf1 kf2 kf4 b0 bf
    have hrn : rdNum s at_ 2 < 65536 := by have := rdNum_lt s at_ 2; simpa using this
    have FK := Lib.hid fun (X : Bool) (V : Value) => (KAt.put_r K1.out (at_ + 2) X).far (i := i) (u := V) hne
    have FB := Lib.hid fun (S X V : Value) => blk_set (set_keep (j := 4) (u := X) (set_keep (j := 2) (u := S) B1.out hne) hne) i V
    have FO := Lib.hid fun (S X V : Value) => (((OthersKept.of_below (p := fun k => k = gk ∨ k = b) hb).trans (one_kept2 w1 gk b 2 S) (fun _ _ h => h)).trans (one_kept2 (w1.setCell ⟨gk, 2, none⟩ S) gk b 4 X) (fun _ _ h => h)).trans (one_kept3 ((w1.setCell ⟨gk, 2, none⟩ S).setCell ⟨gk, 4, none⟩ X) gk b i V) (fun _ _ h => h)
    obtain ⟨n, hn⟩ : ∃ n, n = rdNum s at_ 2 := ⟨_, rfl⟩
    rw [← hn] at hrn ⊢
    have HNN := Lib.hid hn
    clear hn hb
    have w1n : IntKind.i64.wrap (n : Int) = (n : Int) := IntWalk.i64_in _ ⟨by omega, by omega⟩
    have w2n : IntKind.i64.wrap ((at_ : Int) + 2) = ((at_ + 2 : Nat) : Int) := by rw [show ((at_ + 2 : Nat) : Int) = (at_ : Int) + 2 by omega]; exact IntWalk.i64_in _ ⟨by omega, by omega⟩
    cases bad
    all_goals
      cases his : decide (at_ + 2 ≤ s.length)
      all_goals
        go_wp2_with fail
        (try simp only [Exit.inBlock, Exit.then])
        refine bodyPost_end (results_none rfl _ _ _) rfl ?_
        refine ⟨rfl, ?_, ?_, FO.out _ _ _⟩
        · exact KAt.cast (FK.out _ _) (num_r HNN.out (by rw [his]; exact Bool.eq_iff_iff.2 (by simp <;> omega)))
        · simp only [Cd.numV, if_true]
          rw [← HNN.out]
          exact FB.out _ _ _

end Go.Proofs.Ytienlhnbmobinaa
