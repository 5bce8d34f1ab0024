/- chapter 24: Get, Close, All. -/
import Derived.Test.YtoeaakadpillnaaRows
import Derived.Test.YtoeaakadpillnaaViewMapNew
import Derived.Test.YtoeaakadpillnaaViewMap
import Derived.Test.YtoeaakadpillnaaViewStaysPlain
import Derived.Test.YtoeaakadpillnaaViewNil
import Derived.Test.YtoeaakadpillnaaNumsIn
import Derived.Test.YtoeaakadpillnaaViewCopied
import Derived.Test.YtoeaakadpillnaaViewWorks
import Derived.Test.YtoeaakadpillnaaViewRef
import Derived.Test.YtoeaakadpillnaaViewOf
import Derived.Test.YtoeaakadpillnaaViewSame
import Derived.Test.YtoeaakadpillnaaViewSees
import Derived.Test.YtoeaakadpillnaaViewNums
import Derived.Test.YtoeaakadpillnaaLockRefTake
import Derived.Test.YtoeaakadpillnaaLockPlain
import Derived.Test.YtoeaakadpillnaaSortUTop
import Derived.Test.YtoeaakadpillnaaLockRef
import Derived.Test.YtoeaakadpillnaaKept
import Derived.Test.YtoeaakadpillnaaQuietTail
import Derived.Test.YtoeaakadpillnaaAppAny
import Derived.Deep.LoopGhost
import Derived.Deep.CutBlock
import Derived.Lib.SliceRun
import Derived.Laws.ResultCell
import Derived.Maps.OwnSet
import Derived.Maps.RangeWalk
import Derived.WalkKit
import Derived.WalkLawsBesides
import Derived.WalkSpells
import Derived.LoopTactic
import Derived.WalkMore
import Derived.LoopN
import Derived.Laws.BitsAllLaws
import Derived.Laws.IdiomStrings
import Derived.BigQuiet
import Derived.Deep.QuietTactic
import Derived.Deep.DeepCutAuto
import Derived.Deep.RegionHeld3
import Derived.Deep.DrawnRows
import Derived.Lib.Hide
import Derived.Outline
import Derived.Deep.DeepMust
import Derived.Handy
namespace Go.Proofs.Ytoeaakadpillnaa
open Go.RowKit
set_option linter.unusedVariables false
set_option linter.unusedSimpArgs false

open Go.Maps
theorem VE.sv_nums {w : World} {g m base n : Nat} {T : VT} (h : VwAt w g m base T n) {k : Int} {e : VE} (he : T k = some e) : NumsAt w e.sv e.xs := (nums_own (h.rows k e he).1).1

set_option maxHeartbeats 4000000 in
set_option maxRecDepth 100000 in
theorem vwGet (w : World) {g m base n : Nat} {T : VT} (h : VwAt w g m base T n) (k : Int) (e : VE) (he : T k = some e) :
    Calls Try.prog 48 #[.pointer (some ⟨g, 0, none⟩), .int .i64 k] w fun r w' => ∃ b c, r = .returned (.tuple #[viewV e.own e.next (.slice b e.xs.length c), .bool true]) ∧ w'.ownsRow w.heap.size 27 1 (.slice b e.xs.length c) e.xs.length (nums e.xs) ∧ Below w.heap.size w w' := by
  obtain ⟨W1, hW1⟩ : ∃ W, W = w.alloc (.cells #[.int .u64 0, .int .u64 0, .slice none 0 0] 50) := ⟨_, rfl⟩
  obtain ⟨W2, hW2⟩ : ∃ W, W = W1.alloc (.cells #[.int .u64 e.own, .int .u64 e.next, e.sv] 50) := ⟨_, rfl⟩
  have s1 : W1.heap.size = w.heap.size + 1 := by rw [hW1]; simp
  have s2 : W2.heap.size = w.heap.size + 2 := by rw [hW2]; simp [s1]
  have B1 : W1.heap[w.heap.size]? = some (.cells #[.int .u64 0, .int .u64 0, .slice none 0 0] 50 (0, 0)) := by rw [hW1]; exact heap_alloc_new w _
  have B2 : W2.heap[w.heap.size + 1]? = some (.cells #[.int .u64 e.own, .int .u64 e.next, e.sv] 50 (0, 0)) := by rw [hW2, ← s1]; exact heap_alloc_new W1 _
  have B1' : W2.heap[w.heap.size]? = some (.cells #[.int .u64 0, .int .u64 0, .slice none 0 0] 50 (0, 0)) := by rw [hW2]; exact heap_keep B1
  have hB1 : Below w.heap.size w W1 := by rw [hW1]; exact (Below.refl _ _).alloc (Nat.le_refl _) _
  have hB : Below w.heap.size w W2 := by
    rw [hW2, hW1]
    exact ((Below.refl _ _).alloc (Nat.le_refl _) _).alloc (by simp) _
  have HB := Lib.hid hB
  have HS2 := Lib.hid s2
  have P1 := Lib.hid B1'
  have P2 := Lib.hid B2
  have hd := h.dom k (by rw [he]; rfl)
  have h1 := h.below hB1
  have M := Lib.hid (vwMade W1 h1)
  have c0 := h1.c0
  have lk := h1.look (k := k) (by omega) (by omega) he
  have CO := Lib.hid (vcopied_any e.own e.next e.sv e.xs W2 (h.rows k e he).2 ((VE.sv_nums h he).below hB))
  obtain ⟨own, next, b, c, xs⟩ := e
  simp only [VE.val, VE.sv] at *
  rw [hW2] at P1 P2 HB HS2 CO
  rw [hW1] at P1 P2 HB HS2 CO M c0 lk
  clear hB B1 B2 B1' s1 s2 hW1 hW2 h1 hB1 h he hd
  go_enter Try.func48, Try.ntmps48
  go_wp2_with fail
  refine M.out.mono ?_
  rintro e w1 ⟨rfl, rfl⟩
  go_upto_region 4 with fail
  generalize (w.alloc (.cells #[.int .u64 0, .int .u64 0, .slice none 0 0] 50)).alloc (.cells #[.int .u64 own, .int .u64 next, .slice b xs.length c] 50) = W5 at *
  obtain ⟨x0, x1, x2, _, _, _⟩ := cells3 P2.out
  clear c0 lk
  go_wp2_with fail
  refine CO.out.mono ?_
  rintro e w3 ⟨b3, c3, rfl, ho, hb3⟩
  have y1 := (hb3.block _ (blk_lt P1.out)).trans P1.out
  obtain ⟨z0, z1, z2, z3, z4, z5⟩ := cells3 y1
  have XB := Lib.hid (set3_blk (x := .int .u64 own) (y := .int .u64 next) (z := .slice b3 xs.length c3) y1)
  have hk := set3 w3 w.heap.size (.int .u64 own) (.int .u64 next) (.slice b3 xs.length c3)
  have HO := Lib.hid (hk.owns ho (fun k hk h => by have := own_block ho k hk; have := HS2.out; omega))
  have HB3 := Lib.hid (OthersKept.below HB.out ((OthersKept.of_below (p := fun k => w.heap.size ≤ k) hb3).trans hk (fun k hk h => by omega)) (fun k hk h => by omega))
  clear ho hb3 y1 hk x0 x1 x2
  go_wp2_with fail
  refine bodyPost_ret (v := .tuple #[viewV own next (.slice b3 xs.length c3), .bool true]) (results_cell_tmp_row (p := 4) (u := 5) (by kernel_rfl) _ _ w.heap.size 50 _ (0, 0) _ rfl XB.out Try.underlying50 rfl (by kernel_rfl)) rfl ?_
  have hsz := HS2.out
  exact ⟨_, _, rfl, own_down (base := W5.heap.size) HO.out (by omega), HB3.out⟩

set_option maxHeartbeats 4000000 in
set_option maxRecDepth 100000 in
theorem vwClose (w : World) {g m base n : Nat} {T : VT} (h : VwAt w g m base T (n + 1)) (k : Int) (e : VE) (he : T k = some e) :
    Calls Try.prog 49 #[.pointer (some ⟨g, 0, none⟩), .int .i64 k] w fun r w' => r = .returned (.int .i64 0) ∧ VwAt w' g m base (T.del k) n ∧ OthersKept w w' (fun k => k = m) := by
  have M := Lib.hid (vwMade w h)
  have hd := h.dom k (by rw [he]; rfl)
  have c0 := h.c0
  have lk := h.look (k := k) (by omega) (by omega) he
  have hB1 : Below w.heap.size w (w.alloc (.cells #[.int .u64 e.own, .int .u64 e.next, e.sv] 50)) := (Below.refl _ _).alloc (Nat.le_refl _) _
  have h1 := h.below hB1
  have c1 := h1.c0
  obtain ⟨w5, hdel, h5, hg5⟩ := h1.drop (k := k) (by rw [he]; rfl) 0
  have H5 := Lib.hid h5
  have HK := Lib.hid ((OthersKept.of_below (p := fun k => k = m) hB1).trans (OthersKept.of_grown (p := fun k => k = m) (g := m) hg5 rfl) (fun _ _ h => h))
  obtain ⟨own, next, b, c, xs⟩ := e
  simp only [VE.val, VE.sv] at *
  clear hB1 h1 h hd he h5 hg5
  generalize xs.length = ln at *
  go_enter Try.func49, Try.ntmps49
  go_wp2_with fail
  refine M.out.mono ?_
  rintro e w1 ⟨rfl, rfl⟩
  go_wp2_with fail
  go_ret
  exact ⟨rfl, H5.out, HK.out⟩

/-- Do all that were gone over see it? -/
def SeesAll (T : VT) (tx : Nat) (left : Lit → Bool) : Prop := ∀ (k : Int) (e : VE), T k = some e → left (.int .i64 k) = false → seesV e.own e.next e.xs tx = true
theorem val_at {D : DataW Value} {T : VT} {n : Nat} (h : VwD D T n) {x : Int} {c : Value} (hat : ∀ zd, D.atKey (.int .i64 x) zd = .held c) : ∃ e, T x = some e ∧ c = e.val := by
  have hh := Go.Maps.has_true_of_atKey hat
  rw [h.has] at hh
  cases hw : T x with
  | none => rw [hw] at hh; cases hh
  | some e =>
    have := h.val x e hw (.held undef)
    rw [hat] at this
    injection this with this
    exact ⟨e, rfl, this⟩

set_option maxHeartbeats 4000000 in
set_option maxRecDepth 100000 in
theorem vwAll (w : World) {g m base n : Nat} {T : VT} (tx : Nat) (h : VwAt w g m base T n) :
    Calls Try.prog 50 #[.pointer (some ⟨g, 0, none⟩), .int .u64 tx] w fun r w' => ∃ b : Bool, r = .returned (.bool b) ∧ (b = true ↔ ∀ k e, T k = some e → seesV e.own e.next e.xs tx = true) ∧ Below w.heap.size w w' := by
  have M := Lib.hid (vwMade w h)
  have c0 := h.c0
  have H := Lib.hid h
  obtain ⟨D, ho, hD⟩ := h.ex
  have HO := Lib.hid ho
  have HD := Lib.hid hD
  have hmlt := h.lt.2
  clear h ho hD
  go_enter Try.func50, Try.ntmps50
  go_wp2_with fail
  refine M.out.mono ?_
  rintro e w1 ⟨rfl, rfl⟩
  go_wp2_with (at_range; refine wpList_range_own _ rfl _ 128 rfl 3 50 vw_key Try.underlying128 _ m _ _ rfl HO.out ?_; intro w0 hrg0 hg0 hs0)
  go_frame
  have HB0 := Lib.hid (show Below w.heap.size w w0 from (Below.refl _ _).grown hg0 (Nat.le_refl _) (fun j hj => by cases hj))
  clear hs0 hg0
  go_loopw [] (fun wr => ∃ (left : Lit → Bool) (cnt : Nat), wr.ranges Try.prog 3 heldE m w.heap.size n D left cnt ∧ SeesAll T tx left ∧ Below w.heap.size w wr) (fun wr => wr.rangeLeft m w.heap.size)
  case atStart => exact ⟨_, _, hrg0, (fun k e he hl => by rw [HD.out.has, he] at hl; cases hl), HB0.out⟩
  case round =>
    obtain ⟨left, cnt, hrg, hG, hB⟩ := hrel
    have HR := Lib.hid hrg
    have HG := Lib.hid hG
    have HB := Lib.hid hB
    clear hrg hG hB hrg0 HB0
    go_wp2_with (at_next; refine wpList_next_ranges _ rfl _ rfl 3 vw_key heldE (Value.int .i64) (id : Value → Value) (fun key kl hk => by obtain ⟨x, hx, _⟩ := Maps.keyOf_int_inv Try.underlying3 hk; exact ⟨x, hx⟩) (fun v y hv => ⟨v, rfl⟩) m w.heap.size n _ _ _ rfl HR.out ?_ ?_)
    · intro hc0 hl0
      have HALL := Lib.hid (show ∀ k e, T k = some e → seesV e.own e.next e.xs tx = true from fun k e he => HG.out k e he (hl0 _))
      clear hc0 hl0
      go_wp2_with fail
      go_ret
      exact ⟨true, rfl, ⟨fun _ => HALL.out, fun _ => rfl⟩, HB.out⟩
    · intro x c kl yd yp w2 cnt2 hkey hlk hv hat hrg2 hlt hg2 hs2 hen
      obtain ⟨x', ex, rfl, hxl⟩ := Maps.keyOf_int_inv Try.underlying3 hkey
      obtain rfl : x = x' := by injection ex
      have hv1 : yd = .held c := by have := congrArg (fun o => o.map Prod.fst) hv; simpa [heldE] using this.symm
      subst hv1
      clear hv
      obtain ⟨e, he, hce⟩ := val_at HD.out hat
      have hce2 : c = e.val := hce
      subst hce2
      have HR2 := Lib.hid hrg2
      have HB2 := Lib.hid (show Below w.heap.size w w2 from HB.out.grown hg2 HB.out.size (fun j hj => by cases hj; exact Nat.le_refl _))
      have HLT := Lib.hid hlt
      have HE := Lib.hid he
      have HAT := Lib.hid hat
      have hb3 : Below w2.heap.size w2 (w2.alloc (.cells #[.int .u64 e.own, .int .u64 e.next, e.sv] 50)) := (Below.refl _ _).alloc (Nat.le_refl _) _
      have SE := Lib.hid (sees_any e.own e.next tx e.sv e.xs _ ((VE.sv_nums (H.out.below HB2.out) he).below hb3))
      have HSTEP := Lib.hid (show seesV e.own e.next e.xs tx = true → SeesAll T tx (fun z => left z && !z.sameKey (.int .i64 x)) from fun hs k' e' he' hl' => by
        by_cases hk : k' = x
        · subst hk
          rw [he] at he'
          injection he' with he'
          subst he'
          exact hs
        · refine HG.out k' e' he' ?_
          simp [Lit.sameKey, hk] at hl'
          exact hl')
      have HB3 := Lib.hid hb3
      have HEN := Lib.hid hen
      clear hkey hlk hat hrg2 hg2 hs2 hlt ex he hce hb3 HAT
      obtain ⟨own, next, b, c, xs⟩ := e
      simp only [id, VE.val, VE.sv] at *
      have hen2 := HEN.out
      have HE2 := Lib.hid HE.out
      generalize hsv : seesV own next xs tx = sb at *
      have HSV := Lib.hid hsv
      clear hsv hen
      cases sb with
      | true =>
        have HG2 := Lib.hid (HSTEP.out rfl)
        clear HSTEP
        go_wp2_with fail
        refine SE.out.mono ?_
        rintro e w5 ⟨rfl, hb⟩
        have HB5 := Lib.hid (below_trans2 HB2.out (OthersKept.below HB3.out (OthersKept.of_below (p := fun _ => False) hb) (fun _ _ h => h)))
        have HR5 := Lib.hid ((HR2.out.alloc (.cells #[.int .u64 own, .int .u64 next, .slice b xs.length c] 50)).kept (row := none) (grown_below none hb) (by simp) (by simp))
        clear hb
        go_wp2_with fail
        go_roundw
        case rel => exact ⟨_, cnt2, HR5.out, HG2.out, HB5.out⟩
        case measure => rw [HR5.out.left_eq, HR.out.left_eq]; exact HLT.out
      | false =>
        go_wp2_with fail
        refine SE.out.mono ?_
        rintro e w5 ⟨rfl, hb⟩
        have HB5 := Lib.hid (below_trans2 HB2.out (OthersKept.below HB3.out (OthersKept.of_below (p := fun _ => False) hb) (fun _ _ h => h)))
        clear hb
        go_wp2_with fail
        (try simp only [Exit.inBlock, Exit.then]); refine bodyPost_ret (results_tmp rfl _ _ _) rfl ?_
        refine ⟨false, rfl, ⟨fun h => (by cases h), fun h => ?_⟩, HB5.out⟩
        have := h x _ HE2.out
        simp only at this
        rw [HSV.out] at this
        exact this

end Go.Proofs.Ytoeaakadpillnaa
