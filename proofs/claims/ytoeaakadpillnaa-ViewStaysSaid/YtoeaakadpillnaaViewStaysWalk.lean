/- chapter 24: ViewStays. -/
import Derived.Test.YtoeaakadpillnaaRows
import Derived.Test.YtoeaakadpillnaaViewStaysPlain
import Derived.Test.YtoeaakadpillnaaViewNil
import Derived.Test.YtoeaakadpillnaaNumsIn
import Derived.Test.YtoeaakadpillnaaViewCopied
import Derived.Test.YtoeaakadpillnaaViewWorks
import Derived.Test.YtoeaakadpillnaaViewRef
import Derived.Test.YtoeaakadpillnaaViewOf
import Derived.Test.YtoeaakadpillnaaViewCpt
import Derived.Test.YtoeaakadpillnaaViewCmp
import Derived.Test.YtoeaakadpillnaaViewDel
import Derived.Test.YtoeaakadpillnaaViewOut
import Derived.Test.YtoeaakadpillnaaViewSame
import Derived.Test.YtoeaakadpillnaaViewSees
import Derived.Test.YtoeaakadpillnaaViewNums
import Derived.Test.YtoeaakadpillnaaLockRefTake
import Derived.Test.YtoeaakadpillnaaLockActs
import Derived.Test.YtoeaakadpillnaaOpenFlat
import Derived.Test.YtoeaakadpillnaaSortUTop
import Derived.Test.YtoeaakadpillnaaLockRef
import Derived.Test.YtoeaakadpillnaaKept
import Derived.Test.YtoeaakadpillnaaQuietTail
import Derived.Test.YtoeaakadpillnaaAppAny
import Derived.Deep.LoopGhost
import Derived.Deep.CutBlock
import Derived.Lib.SliceRun
import Derived.Laws.ResultCell
import Derived.WalkKit
import Derived.WalkLawsBesides
import Derived.WalkSpells
import Derived.LoopTactic
import Derived.WalkMore
import Derived.LoopN
import Derived.Laws.BitsAllLaws
import Derived.Laws.IdiomStrings
import Derived.BigQuiet
import Derived.Deep.QuietTactic
import Derived.Deep.DeepCutAuto
import Derived.Deep.RegionHeld3
import Derived.Deep.DrawnRows
import Derived.Lib.Hide
import Derived.Outline
import Derived.Deep.DeepMust
import Derived.Handy
namespace Go.Proofs.Ytoeaakadpillnaa
open Go.RowKit
set_option linter.unusedVariables false
set_option linter.unusedSimpArgs false

set_option maxHeartbeats 16000000 in
set_option maxRecDepth 100000 in
theorem viewStays_any (one two : Nat) (s1 : Value) (bs : List Nat) (w : World) (ho1 : one < 256) (ht1 : two < 256) (h1 : BytAt w s1 bs) :
    Calls Try.prog 9 #[s1, .int .u8 one, .int .u8 two] w fun e w' => e = .returned (.bool true) ∧ Below w.heap.size w w' := by
  have WK := Lib.hid vworks
  have HBY := Lib.hid h1
  obtain ⟨A1, c1, rfl, r1, r2, _, _⟩ := h1
  unfold maxLen at r2
  obtain ⟨n, hn⟩ : ∃ n, n = bs.length := ⟨_, rfl⟩
  simp only [← hn] at r1 HBY ⊢
  have HNn := Lib.hid hn
  clear hn
  obtain ⟨j0, ji, jz0, jz1, jz2⟩ := info_parts (P := Try.prog) (e := 27) (z := .int .u64 0) (size := 1) (bytes := 8) (by kernel_rfl)
  go_enter Try.func9, Try.ntmps9
  by_cases hx : n > 200
  · have hxi : (n : Int) > 200 := by omega
    go_wp2_with fail
    refine (WK.out _).mono ?_
    rintro e w2 ⟨rfl, hb⟩
    have HB2 := Lib.hid hb
    clear hb
    go_wp2_with fail
    go_ret
    exact ⟨rfl, HB2.out⟩
  have hxi : ¬ (n : Int) > 200 := by omega
  obtain ⟨W1, hW1⟩ : ∃ W, W = w.alloc (.cells #[.int .u64 0, .int .u64 0, .slice none 0 0] 50) := ⟨_, rfl⟩
  obtain ⟨W2, hW2⟩ : ∃ W, W = W1.alloc (.cells #[.int .u64 0, .int .u64 0, .slice none 0 0] 50) := ⟨_, rfl⟩
  have s1 : W1.heap.size = w.heap.size + 1 := by rw [hW1]; simp
  have VS0 : Hid (VS w w.heap.size (w.heap.size + 1) W2 [] none 0 0 [] none 0 0 [] none 0) := by
    have hB : Below w.heap.size w W2 := by
      rw [hW2, hW1]
      exact ((Below.refl _ _).alloc (Nat.le_refl _) _).alloc (by simp) _
    refine ⟨hB, Nat.le_refl _, by omega, ?_, ?_, World.ownsRow_nil _ _ _ _, World.ownsRow_nil _ _ _ _, World.ownsRow_nil _ _ _ _, fun k h => by simp [Value.ownBlock] at h, fun k h => by simp [Value.ownBlock] at h⟩
    · rw [hW2]; refine heap_keep ?_; rw [hW1]; exact heap_alloc_new w _
    · rw [hW2, ← s1]; exact heap_alloc_new W1 _
  rw [hW1] at hW2
  clear s1 hW1
  obtain ⟨N1, hN1⟩ : ∃ x, x = n + 1 := ⟨_, rfl⟩
  obtain ⟨x, hx1⟩ : ∃ x, x = one % N1 := ⟨_, rfl⟩
  obtain ⟨y, hy1⟩ : ∃ x, x = two % N1 := ⟨_, rfl⟩
  have m1 := wadd1 n N1 (by omega) (by omega)
  have hxN : x < N1 := by rw [hx1]; exact Nat.mod_lt _ (by omega)
  have hyN : y < N1 := by rw [hy1]; exact Nat.mod_lt _ (by omega)
  have t1 : ((one : Nat) : Int).tmod (N1 : Int) = (x : Int) := by rw [Int.tmod_eq_emod_of_nonneg (by omega)]; rw [hx1]; exact (Int.natCast_emod _ _).symm
  have t2 : ((two : Nat) : Int).tmod (N1 : Int) = (y : Int) := by rw [Int.tmod_eq_emod_of_nonneg (by omega)]; rw [hy1]; exact (Int.natCast_emod _ _).symm
  have hN0 : ¬ (N1 : Int) = 0 := by omega
  have k1 : IntKind.i64.wrap ((one : Nat) : Int) = (one : Int) := IntWalk.i64_in _ ⟨by omega, by omega⟩
  have k2 : IntKind.i64.wrap ((two : Nat) : Int) = (two : Int) := IntWalk.i64_in _ ⟨by omega, by omega⟩
  have k3 : IntKind.i64.wrap ((x : Nat) : Int) = (x : Int) := IntWalk.i64_in _ ⟨by omega, by omega⟩
  have k4 : IntKind.i64.wrap ((y : Nat) : Int) = (y : Int) := IntWalk.i64_in _ ⟨by omega, by omega⟩
  have hN2 : n + 1 = N1 := hN1.symm
  clear hx1 hy1 hN1 hx
  go_upto_region 6 with fail
  rw [← hW2]
  clear hW2
  refine wp_region_ext W2.heap.size (by kernel_rfl) (by kernel_rfl) ?_
  repeat (go_big_quiet_step (fail))
  refine wpQuiet_nil ?_
  rintro _ ⟨X, rfl⟩
  have HX := Lib.hid X.below
  go_wp2_with fail
  obtain ⟨f, hf⟩ : ∃ f : Nat, f = min x y := ⟨_, rfl⟩
  obtain ⟨l, hl⟩ : ∃ f : Nat, f = max x y := ⟨_, rfl⟩
  have em1 : min (x : Int) (y : Int) = (f : Int) := by omega
  have em2 : max (x : Int) (y : Int) = (l : Int) := by omega
  simp only [em1, em2]
  have hfl : f ≤ l := by omega
  have hln : l ≤ n := by omega
  have VS1 := Lib.hid (VS0.out.below HX.out)
  generalize X.val = W3 at *
  have hn2 : n ≤ 200 := by omega
  clear em1 em2 hf hl m1 hxN hyN t1 t2 hN0 k1 k2 k3 k4 hN2 HX VS0
  go_loopw [7, 8, 15] (fun s7 s8 s15 wr => ∃ (i nx : Nat) (act : List Nat) (b : Option Addr) (cp na : Nat) (ya : List Nat) (ba : Option Addr) (ca nb : Nat) (yb : List Nat) (bb : Option Addr) (cb : Nat), s7 = .int .u64 nx ∧ s8 = .slice b act.length cp ∧ s15 = .int .i64 i ∧ i ≤ n ∧ nx ≤ i + 1 ∧ act.length ≤ i ∧ Hid (VS w w.heap.size (w.heap.size + 1) wr act b cp na ya ba ca nb yb bb cb) ∧ Hid (VI l i nx act ya yb na nb)) (fun _ _ v _ => n + 1 - (intOf v).toNat)
  case atStart => exact ⟨0, 1, [], none, 0, 0, [], none, 0, 0, [], none, 0, rfl, rfl, rfl, Nat.zero_le _, Nat.le_refl _, Nat.le_refl _, VS1, VI.start l⟩
  case round =>
    obtain ⟨i, nx, act, b, cp, na, ya, ba, ca, nb, yb, bb, cb, rfl, rfl, rfl, hi, hnx, hal, HV, HI⟩ := hrel
    have hii : (i : Int) ≤ (n : Int) := by omega
    go_upto_if 54 with fail
    go_cut [54] (fun st w' => (∃ t, st = .bool t) ∧ ∃ na ya ba ca, Hid (VS w w.heap.size (w.heap.size + 1) w' act b cp na ya ba ca nb yb bb cb) ∧ Hid (VI l i nx act ya yb na nb))
    case first =>
      by_cases hif : i = f
      · subst hif
        have OF : Hid (Calls Try.prog 30 #[.int .u64 0, .int .u64 nx, .slice b act.length cp] wr fun e w' => ∃ v', e = .returned (viewV 0 nx v') ∧ ∃ ys, OfL 0 nx act ys ∧ w'.ownsRow wr.heap.size 27 1 v' ys.length (nums ys) ∧ Below wr.heap.size wr w') := of_any 0 nx _ act wr (by omega) (nums_own HV.out.row).1
        go_wp2_with fail
        refine OF.out.mono ?_
        rintro e w1 ⟨v1, rfl, ys, hL, ho, hb⟩
        obtain ⟨b2, c2, rfl, _, _, _⟩ := own_form ho
        obtain ⟨x0, x1, x2, x3, x4, x5⟩ := cells3 (HV.out.below hb).A
        have HV2 := Lib.hid (HV.out.setA hb ho (nx := nx))
        have HI2 := Lib.hid (HI.out.setA (by omega) hL)
        clear hL ho hb
        go_wp2_with fail
        go_meet
        exact ⟨⟨_, rfl⟩, nx, ys, b2, c2, HV2, HI2⟩
      · have hifi : ¬ (i : Int) = (f : Int) := by omega
        have HI2 := Lib.hid (HI.out)
        go_wp2_with fail
        go_meet
        exact ⟨⟨_, rfl⟩, na, ya, ba, ca, HV, HI2⟩
    case rest =>
      obtain ⟨⟨t54, rfl⟩, na2, ya2, ba2, ca2, HV2, HI2⟩ := hcut
      clear HV HI
      have HV := HV2
      have HI := HI2
      clear HV2 HI2
      go_upto_if 60 with fail
      go_cut [60] (fun st w' => (∃ t, st = .bool t) ∧ ∃ nb yb bb cb, Hid (VS w w.heap.size (w.heap.size + 1) w' act b cp na2 ya2 ba2 ca2 nb yb bb cb) ∧ Hid (VI l (i + 1) nx act ya2 yb na2 nb))
      case first =>
        by_cases hif : i = l
        · subst hif
          have OF : Hid (Calls Try.prog 30 #[.int .u64 0, .int .u64 nx, .slice b act.length cp] wc fun e w' => ∃ v', e = .returned (viewV 0 nx v') ∧ ∃ ys, OfL 0 nx act ys ∧ w'.ownsRow wc.heap.size 27 1 v' ys.length (nums ys) ∧ Below wc.heap.size wc w') := of_any 0 nx _ act wc (by omega) (nums_own HV.out.row).1
          go_wp2_with fail
          refine OF.out.mono ?_
          rintro e w1 ⟨v1, rfl, ys, hL, ho, hb⟩
          obtain ⟨b2, c2, rfl, _, _, _⟩ := own_form ho
          obtain ⟨x0, x1, x2, x3, x4, x5⟩ := cells3 (HV.out.below hb).B
          have HV2 := Lib.hid (HV.out.setB hb ho (nx := nx))
          have HI2 := Lib.hid (HI.out.setB hL)
          clear hL ho hb
          go_wp2_with fail
          go_meet
          exact ⟨⟨_, rfl⟩, nx, ys, b2, c2, HV2, HI2⟩
        · have hifi : ¬ (i : Int) = (l : Int) := by omega
          have HI2 := Lib.hid (HI.out.skipB hif)
          go_wp2_with fail
          go_meet
          exact ⟨⟨_, rfl⟩, nb, yb, bb, cb, HV, HI2⟩
      case rest =>
        obtain ⟨⟨t60, rfl⟩, nb2, yb2, bb2, cb2, HV2, HI2⟩ := hcut
        clear HV HI
        have HV := HV2
        have HI := HI2
        clear HV2 HI2
        obtain ⟨m, hm⟩ : ∃ m, m = act.length := ⟨_, rfl⟩
        rw [← hm]
        have HMm := Lib.hid hm
        rw [← hm] at hal
        have hmc : m ≤ cp ∧ cp ≤ 2 ^ 63 - 1 := by
          obtain ⟨b', c', he, h1, h2, _⟩ := own_form HV.out.row
          injection he with _ _ he
          subst he
          exact ⟨by omega, h2⟩
        obtain ⟨hm1, hm2⟩ := hmc
        clear hm
        by_cases hin : i = n
        · subst hin
          go_wp2_with fail
          have HSA := Lib.hid HI.out.sa
          have HSB := Lib.hid (HI.out.sb (by omega))
          have SEA : Hid (∀ (tx : Nat) W, Below wc.heap.size wc W → Calls Try.prog 33 #[.agg #[.int .u64 0, .int .u64 na2, .slice ba2 ya2.length ca2], .int .u64 tx] W fun e w' => e = .returned (.bool (seesV 0 na2 ya2 tx)) ∧ Below W.heap.size W w') := fun tx W hW => sees_any 0 na2 tx _ ya2 W ((nums_own HV.out.rowA).1.below hW)
          have SEB : Hid (∀ (tx : Nat) W, Below wc.heap.size wc W → Calls Try.prog 33 #[.agg #[.int .u64 0, .int .u64 nb2, .slice bb2 yb2.length cb2], .int .u64 tx] W fun e w' => e = .returned (.bool (seesV 0 nb2 yb2 tx)) ∧ Below W.heap.size W w') := fun tx W hW => sees_any 0 nb2 tx _ yb2 W ((nums_own HV.out.rowB).1.below hW)
          have CE : Hid (∀ W, Below wc.heap.size wc W → (W.cell? ⟨w.heap.size, 0, none⟩ = some (.int .u64 0) ∧ W.cell? ⟨w.heap.size, 1, none⟩ = some (.int .u64 na2) ∧ W.cell? ⟨w.heap.size, 2, none⟩ = some (.slice ba2 ya2.length ca2)) ∧ W.cell? ⟨w.heap.size + 1, 0, none⟩ = some (.int .u64 0) ∧ W.cell? ⟨w.heap.size + 1, 1, none⟩ = some (.int .u64 nb2) ∧ W.cell? ⟨w.heap.size + 1, 2, none⟩ = some (.slice bb2 yb2.length cb2)) := fun W hW => by
            obtain ⟨a1, a2, a3, _, _, _⟩ := cells3 (HV.out.below hW).A
            obtain ⟨b1, b2, b3, _, _, _⟩ := cells3 (HV.out.below hW).B
            exact ⟨⟨a1, a2, a3⟩, b1, b2, b3⟩
          have HBW := Lib.hid HV.out.bel
          generalize ya2.length = la at *
          generalize yb2.length = lb at *
          go_loopw [18] (fun s18 wr => ∃ tx : Nat, s18 = .int .u64 tx ∧ tx ≤ nx + 2 ∧ Below wc.heap.size wc wr) (fun v _ => nx + 2 - (intOf v).toNat)
          case atStart => exact ⟨1, rfl, by omega, Below.refl _ _⟩
          case round =>
            obtain ⟨tx, rfl, htx, hb⟩ := hrel
            have K0 := Lib.hid hb
            clear hb
            obtain ⟨⟨x0, x1, x2⟩, y0, y1, y2⟩ := CE.out wr K0.out
            by_cases hc : tx < nx + 2
            · have hci : (tx : Int) < (nx : Int) + 2 := by omega
              cases hT : seesV 0 na2 ya2 tx with
              | true =>
                have SA1 := Lib.hid (SEA.out tx)
                have SB1 := Lib.hid (SEB.out tx)
                rw [hT] at SA1
                rw [HSB.out tx hT] at SB1
                have hlt : tx < na2 := (HSA.out tx hT).1
                have hlti : ¬ (na2 : Int) ≤ (tx : Int) := by omega
                clear hT
                go_wp2_with fail
                refine (SA1.out wr K0.out).mono ?_
                rintro e z1 ⟨rfl, hb⟩
                have K1 := Lib.hid (below_trans2 K0.out hb)
                clear hb x0 x1 x2 y0 y1 y2
                obtain ⟨⟨x0, x1, x2⟩, y0, y1, y2⟩ := CE.out z1 K1.out
                go_wp2_with fail
                refine (SB1.out z1 K1.out).mono ?_
                rintro e z2 ⟨rfl, hb⟩
                have K2 := Lib.hid (below_trans2 K1.out hb)
                clear hb x0 x1 x2 y0 y1 y2
                obtain ⟨⟨x0, x1, x2⟩, y0, y1, y2⟩ := CE.out z2 K2.out
                go_wp2_with fail
                refine (SA1.out z2 K2.out).mono ?_
                rintro e z3 ⟨rfl, hb⟩
                have K3 := Lib.hid (below_trans2 K2.out hb)
                clear hb x0 x1 x2 y0 y1 y2
                obtain ⟨⟨x0, x1, x2⟩, y0, y1, y2⟩ := CE.out z3 K3.out
                go_wp2_with fail
                go_roundw
                case rel => exact ⟨tx + 1, by go_num, by omega, K3.out⟩
                case measure => simp [intOf] <;> omega
              | false =>
                have SA1 := Lib.hid (SEA.out tx)
                rw [hT] at SA1
                clear hT
                go_wp2_with fail
                refine (SA1.out wr K0.out).mono ?_
                rintro e z1 ⟨rfl, hb⟩
                have K1 := Lib.hid (below_trans2 K0.out hb)
                clear hb x0 x1 x2 y0 y1 y2
                obtain ⟨⟨x0, x1, x2⟩, y0, y1, y2⟩ := CE.out z1 K1.out
                go_wp2_with fail
                refine (SA1.out z1 K1.out).mono ?_
                rintro e z2 ⟨rfl, hb⟩
                have K2 := Lib.hid (below_trans2 K1.out hb)
                clear hb x0 x1 x2 y0 y1 y2
                obtain ⟨⟨x0, x1, x2⟩, y0, y1, y2⟩ := CE.out z2 K2.out
                go_wp2_with fail
                go_roundw
                case rel => exact ⟨tx + 1, by go_num, by omega, K2.out⟩
                case measure => simp [intOf] <;> omega
            · have hci : ¬ (tx : Int) < (nx : Int) + 2 := by omega
              have ON : Hid (∀ W, Calls Try.prog 47 #[.pointer none, .agg #[.int .u64 0, .int .u64 na2, .slice ba2 la ca2]] W fun e w' => e = .returned (.tuple #[.int .i64 0, .int .i64 1]) ∧ Below W.heap.size W w') := fun W => open_nil 0 na2 _ W
              have GN := Lib.hid get_nil
              have CN := Lib.hid close_nil
              have AN := Lib.hid all_nil
              have LN := Lib.hid len_nil
              go_wp2_with fail
              refine (ON.out wr).mono ?_
              rintro e z1 ⟨rfl, hb⟩
              have K1 := Lib.hid (below_trans2 K0.out hb)
              clear hb x0 x1 x2 y0 y1 y2
              go_wp2_with fail
              refine (GN.out 1 z1).mono ?_
              rintro e z2 ⟨rfl, hb⟩
              have K2 := Lib.hid (below_trans2 K1.out hb)
              clear hb
              have K3 := Lib.hid (below_trans2 K2.out ((Below.refl z2.heap.size z2).alloc (Nat.le_refl _) (.cells #[.int .u64 0, .int .u64 0, .slice none 0 0] 50)))
              go_wp2_with fail
              refine (CN.out 1 _).mono ?_
              rintro e z4 ⟨rfl, hb⟩
              have K4 := Lib.hid (below_trans2 K3.out hb)
              clear hb
              go_wp2_with fail
              refine (AN.out 1 _).mono ?_
              rintro e z5 ⟨rfl, hb⟩
              have K5 := Lib.hid (below_trans2 K4.out hb)
              clear hb
              go_wp2_with fail
              refine (LN.out _).mono ?_
              rintro e z6 ⟨rfl, hb⟩
              have K6 := Lib.hid (below_trans2 K5.out hb)
              clear hb
              go_wp2_with fail
              refine (WK.out _).mono ?_
              rintro e z7 ⟨rfl, hb⟩
              have K7 := Lib.hid (below_trans2 HBW.out (OthersKept.below K6.out (OthersKept.of_below (p := fun _ => False) hb) (fun _ _ h => h)))
              clear hb
              go_wp2_with fail
              go_ret
              exact ⟨rfl, K7.out⟩
        · have hini : ¬ (i : Int) = (n : Int) := by omega
          have hilt : (i : Int) < (n : Int) := by omega
          obtain ⟨A', cp', e1, u1, u2, u3, u4⟩ := HBY.out
          injection e1 with e1 e2 e3
          subst e1 e3
          obtain ⟨b0, o0, rfl, hb0, hcell⟩ := u4 (by omega)
          have hix : i < bs.length := by omega
          have cb1 := keep_cell HV.out.bel (hcell i hix)
          have hz256 : bs[i] < 256 := u3 _ (List.getElem_mem hix)
          have q1 : (0 : Int) ≤ (i : Int) := by omega
          generalize bs[i] = z at *
          clear hcell u1 u2 u3 u4 e2
          obtain ⟨r, hr⟩ : ∃ r, r = z % 2 := ⟨_, rfl⟩
          obtain ⟨h, hh⟩ : ∃ r, r = z / 2 := ⟨_, rfl⟩
          have t1 : ((z : Nat) : Int).tmod 2 = (r : Int) := by rw [Int.tmod_eq_emod_of_nonneg (by omega)]; omega
          have t2 : IntKind.u8.wrap ((r : Nat) : Int) = (r : Int) := by rw [IntKind.wrap_u8]; omega
          have t3 : ((z : Nat) : Int).tdiv 2 = (h : Int) := by rw [Int.tdiv_eq_ediv_of_nonneg (by omega)]; omega
          have t4 : IntKind.u8.wrap ((h : Nat) : Int) = (h : Int) := by rw [IntKind.wrap_u8]; omega
          have t5 : IntKind.i64.wrap ((h : Nat) : Int) = (h : Int) := IntWalk.i64_in _ ⟨by omega, by omega⟩
          have hr2 : r < 2 := by omega
          have hh2 : h < 256 := by omega
          clear hr hh
          have hi2 : i + 1 ≤ n := by omega
          go_upto_region 16 with fail
          go_cut [78] (fun s w' => s = .bool (decide (r = 0) || decide (m = 0)) ∧ w' = wc)
          case first =>
            by_cases hr0 : r = 0
            · have hr0i : (r : Int) = 0 := by omega
              have HD := Lib.hid (decide_eq_true hr0)
              clear hr0
              go_wp2_with fail
              go_meet
              exact ⟨by rw [HD.out]; rfl, rfl⟩
            · have hr0i : ¬ (r : Int) = 0 := by omega
              have hr0b : ((r : Int) == 0) = false := by simpa using hr0i
              have HD := Lib.hid (decide_eq_false hr0)
              by_cases hm0 : m = 0
              · have hm0i : (m : Int) = 0 := by omega
                have hm0b : ((m : Int) == 0) = true := by simpa using hm0i
                have HD2 := Lib.hid (decide_eq_true hm0)
                clear hm0 hm0i
                go_wp2_with fail
                go_meet
                exact ⟨by rw [HD.out, HD2.out]; rfl, rfl⟩
              · have hm0b : ((m : Int) == 0) = false := by simp; omega
                have HD2 := Lib.hid (decide_eq_false hm0)
                go_wp2_with fail
                go_meet
                exact ⟨by rw [HD.out, HD2.out]; rfl, rfl⟩
          case rest =>
            obtain ⟨rfl, rfl⟩ := hcut
            cases hT : (decide (r = 0) || decide (m = 0)) with
            | true =>
              clear hT t1 t2 t3 t4 t5
              have HVA := Lib.hid (HV.out.below ((Below.refl wc.heap.size wc).alloc (Nat.le_refl _) (.cells #[.int .u64 nx] 27)))
              have HRW := Lib.hid (show (wc.alloc (.cells #[.int .u64 nx] 27)).ownsRow (w.heap.size + 1 + 1) 27 1 (.slice b m cp) m (nums act) by have := HVA.out.row; rwa [← HMm.out] at this)
              have hbs : w.heap.size + 1 + 1 ≤ (wc.alloc (.cells #[.int .u64 nx] 27)).heap.size := by have := blk_lt HV.out.B; simp; omega
              have HI3 := Lib.hid HI.out.push
              go_wp2_with (at_builtin; refine wpList_append_two rfl (.tmp 79) (.tmp 81) 35 rfl (w.heap.size + 1 + 1) 27 j0 (.int .u64 0) 1 8 Try.underlying35 ji jz0 jz1 jz2 rfl (by decide) (.slice b m cp) m (nums act) (by rfl) HRW.out ⟨wc.heap.size, 0, none⟩ 1 1 [.int .u64 nx] (by rfl) rfl (one_new _ _ _) (fun u hu => by rw [List.mem_singleton.1 hu]; rfl) (by unfold maxLen; omega) (by omega) hbs ?_; intro v8 w8 ho hg hd; refine Aside.out ?_)
              have hzs : nums act ++ [.int .u64 (nx : Nat)] = nums (act ++ [nx]) := by simp [nums]
              have hzl : m + 1 = (act ++ [nx]).length := by have := HMm.out; simp; omega
              rw [hzs, hzl] at ho
              obtain ⟨b8, c8, rfl, _, _, _⟩ := own_form ho
              have HV3 := Lib.hid (HVA.out.push (by rw [← HMm.out]; exact hg) ho (by rw [← HMm.out]; exact hd))
              have hal3 : (act ++ [nx]).length ≤ i + 1 := by rw [← hzl]; omega
              clear ho hg hd hzs hzl hbs
              generalize act ++ [nx] = zs at *
              unfold Aside
              go_wp2_with fail
              go_roundw
              case rel => exact ⟨i + 1, nx + 1, zs, b8, c8, na2, ya2, ba2, ca2, nb2, yb2, bb2, cb2, by go_num, rfl, by go_num, by omega, by omega, hal3, HV3, HI3⟩
              case measure => simp [intOf] <;> omega
            | false =>
              have hm0 : m ≠ 0 := by
                intro e
                rw [decide_eq_true e, Bool.or_true] at hT
                cases hT
              clear hT t1 t2
              obtain ⟨k, hk⟩ : ∃ k, k = h % m := ⟨_, rfl⟩
              have t6 : ((h : Nat) : Int).tmod (m : Int) = (k : Int) := by rw [Int.tmod_eq_emod_of_nonneg (by omega)]; rw [hk]; exact (Int.natCast_emod _ _).symm
              have t7 : IntKind.i64.wrap ((k : Nat) : Int) = (k : Int) := IntWalk.i64_in _ ⟨by have := Nat.mod_lt h (Nat.pos_of_ne_zero hm0); omega, by have := Nat.mod_lt h (Nat.pos_of_ne_zero hm0); omega⟩
              have t8 : ¬ (m : Int) = 0 := by omega
              have hkm : k < m := by rw [hk]; exact Nat.mod_lt _ (Nat.pos_of_ne_zero hm0)
              have hm200 : m ≤ 200 := by omega
              clear hk hm0
              obtain ⟨k1, hk1⟩ : ∃ x, x = k + 1 := ⟨_, rfl⟩
              have ek1 : (k : Int) + 1 = (k1 : Int) := by omega
              have hk1m : k1 ≤ m := by omega
              have q5 : (0 : Int) ≤ (k : Int) := by omega
              have q6 : (k : Int) ≤ (m : Int) := by omega
              have q7 : (k : Int) ≤ (cp : Int) := by omega
              have q8 : (0 : Int) ≤ (k1 : Int) := by omega
              have q9 : (k1 : Int) ≤ (m : Int) := by omega
              have q10 : (k1 : Int) ≤ (cp : Int) := by omega
              have HK1 := Lib.hid hk1
              clear hk1
              have DT : wc.ownsRow (w.heap.size + 1 + 1) 27 1 (.slice b m cp) m (nums act) := by have := HV.out.row; rwa [← HMm.out] at this
              have FT := Lib.hid (reads_front DT k (by omega))
              have GT := Lib.hid (reads_back DT k1 hk1m)
              have HI3 := Lib.hid (HI.out.pop k)
              clear DT
              go_wp2_with (at_builtin; refine wpList_append_any _ rfl (.tmp 94) (.tmp 97) 35 rfl wc.heap.size 27 j0 (.int .u64 0) 1 8 Try.underlying35 ji jz0 jz1 jz2 rfl (by decide) (.slice none 0 0) (0) ([]) (by rfl) (World.ownsRow_nil _ _ _ _) (.slice b k cp) (k) ((nums act).take k) (by rfl) (FT.out) (fun u hu => nums_one _ u (List.mem_of_mem_take hu)) (by unfold maxLen; omega) (by omega) (Nat.le_refl _) ?_; intro v8 w8 ho hg; refine Aside.out ?_)
              have HO8 := Lib.hid ho
              have HB8 := Lib.hid (below_own (Below.refl _ _) (World.ownsRow_nil wc wc.heap.size 27 1) (Nat.le_refl _) hg)
              clear ho hg
              unfold Aside
              go_wp2_with (at_builtin; refine wpList_append_any _ rfl (.tmp 99) (.tmp 103) 35 rfl wc.heap.size 27 j0 (.int .u64 0) 1 8 Try.underlying35 ji jz0 jz1 jz2 rfl (by decide) v8 (0 + k) ([] ++ (nums act).take k) (by rfl) (HO8.out) (.slice (if cp = k1 then b else Option.map (fun x => x.add k1) b) (m - k1) (cp - k1)) (m - k1) ((nums act).drop k1) (by rfl) (GT.out.below HB8.out) (fun u hu => nums_one _ u (List.mem_of_mem_drop hu)) (by unfold maxLen; omega) (by omega) (HB8.out.size) ?_; intro v11 w11 ho hg; refine Aside.out ?_)
              all_goals
                have HB11 := Lib.hid (below_own HB8.out HO8.out (Nat.le_refl _) hg)
                have hR : [] ++ (nums act).take k ++ (nums act).drop k1 = nums (act.take k ++ act.drop (k + 1)) := by rw [HK1.out]; simp [nums, List.map_take, List.map_drop]
                have hN : 0 + k + (m - k1) = (act.take k ++ act.drop (k + 1)).length := by have := HMm.out; have := HK1.out; simp; omega
                rw [hR, hN] at ho
                have hal3 : (act.take k ++ act.drop (k + 1)).length ≤ i + 1 := by rw [← hN]; omega
                obtain ⟨b11, c11, rfl, _, _, _⟩ := own_form ho
                have HV3 := Lib.hid (HV.out.pop HB11.out ho)
                clear ho hg hR hN FT GT HO8 HB8
                generalize act.take k ++ act.drop (k + 1) = zs at *
                unfold Aside
                go_wp2_with fail
                go_roundw
                case rel => exact ⟨i + 1, nx, zs, b11, c11, na2, ya2, ba2, ca2, nb2, yb2, bb2, cb2, rfl, rfl, by go_num, by omega, by omega, hal3, HV3, HI3⟩
                case measure => simp [intOf] <;> omega

end Go.Proofs.Ytoeaakadpillnaa
