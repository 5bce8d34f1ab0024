/- chapter 24: the document's Of. -/
import Derived.Test.YtoeaakadpillnaaRows
import Derived.Test.YtoeaakadpillnaaViewOf
import Derived.Test.YtoeaakadpillnaaViewCpt
import Derived.Test.YtoeaakadpillnaaViewCmp
import Derived.Test.YtoeaakadpillnaaViewDel
import Derived.Test.YtoeaakadpillnaaViewOut
import Derived.Test.YtoeaakadpillnaaViewSame
import Derived.Test.YtoeaakadpillnaaViewSees
import Derived.Test.YtoeaakadpillnaaViewNums
import Derived.Test.YtoeaakadpillnaaLockRefTake
import Derived.Test.YtoeaakadpillnaaSortUTop
import Derived.Test.YtoeaakadpillnaaLockRef
import Derived.Test.YtoeaakadpillnaaKept
import Derived.Test.YtoeaakadpillnaaQuietTail
import Derived.Test.YtoeaakadpillnaaAppAny
import Derived.Deep.LoopGhost
import Derived.Deep.CutBlock
import Derived.Lib.SliceRun
import Derived.WalkKit
import Derived.WalkLawsBesides
import Derived.WalkSpells
import Derived.LoopTactic
import Derived.WalkMore
import Derived.LoopN
import Derived.Laws.BitsAllLaws
import Derived.Laws.IdiomStrings
import Derived.BigQuiet
import Derived.Deep.QuietTactic
import Derived.Deep.DeepCutAuto
import Derived.Deep.RegionHeld3
import Derived.Deep.DrawnRows
import Derived.Lib.Hide
import Derived.Outline
import Derived.Deep.DeepMust
import Derived.Handy
namespace Go.Proofs.Ytoeaakadpillnaa
open Go.RowKit
set_option linter.unusedVariables false
set_option linter.unusedSimpArgs false

/-- What the first i have come to. -/
def RInv (own next : Nat) (xs : List Nat) (i : Nat) (ys : List Nat) : Prop := ys.Pairwise (· < ·) ∧ (∀ z, z ∈ ys ↔ (z ∈ xs.take i ∧ outV own next z = false)) ∧ ys.length ≤ i
theorem RInv.skip {own next : Nat} {xs ys : List Nat} {i : Nat} (h : RInv own next xs i ys) (hi : i < xs.length) (ho : outV own next xs[i] = true ∨ xs[i] ∈ ys) : RInv own next xs (i + 1) ys := by
  refine ⟨h.1, fun z => ?_, Nat.le_succ_of_le h.2.2⟩
  rw [List.take_succ_eq_append_getElem hi, List.mem_append, List.mem_singleton]
  constructor
  · intro hz
    obtain ⟨h1, h2⟩ := (h.2.1 z).1 hz
    exact ⟨.inl h1, h2⟩
  · rintro ⟨h1 | rfl, h2⟩
    · exact (h.2.1 z).2 ⟨h1, h2⟩
    · rcases ho with ho | ho
      · rw [h2] at ho; cases ho
      · exact ho
/-- A number's place in a rising list that has it not. -/
def PosAt (ys : List Nat) (y k : Nat) : Prop := k ≤ ys.length ∧ (∀ j (h : j < ys.length), j < k → ys[j] < y) ∧ ∀ j (h : j < ys.length), k ≤ j → y < ys[j]
theorem RInv.ins {own next : Nat} {xs ys : List Nat} {i k : Nat} (h : RInv own next xs i ys) (hi : i < xs.length) (ho : outV own next xs[i] = false) (hp : PosAt ys xs[i] k) : RInv own next xs (i + 1) (ys.take k ++ xs[i] :: ys.drop k) := by
  have hT : ∀ z ∈ ys.take k, z < xs[i] := by
    intro z hz
    obtain ⟨j, hj, rfl⟩ := List.getElem_of_mem hz
    rw [List.getElem_take]
    simp at hj
    exact hp.2.1 j (by omega) (by omega)
  have hD : ∀ z ∈ ys.drop k, xs[i] < z := by
    intro z hz
    obtain ⟨j, hj, rfl⟩ := List.getElem_of_mem hz
    rw [List.getElem_drop]
    simp at hj
    exact hp.2.2 (k + j) (by omega) (by omega)
  refine ⟨?_, fun z => ?_, ?_⟩
  · rw [List.pairwise_append]
    refine ⟨h.1.sublist (List.take_sublist _ _), List.pairwise_cons.2 ⟨hD, h.1.sublist (List.drop_sublist _ _)⟩, fun a ha b hb => ?_⟩
    rcases List.mem_cons.1 hb with rfl | hb
    · exact hT a ha
    · exact Nat.lt_trans (hT a ha) (hD b hb)
  · rw [List.take_succ_eq_append_getElem hi, List.mem_append, List.mem_append, List.mem_singleton, List.mem_cons]
    have hm : z ∈ ys ↔ z ∈ ys.take k ∨ z ∈ ys.drop k := by
      conv => lhs; rw [← List.take_append_drop k ys]
      exact List.mem_append
    constructor
    · rintro (h1 | rfl | h1)
      · obtain ⟨h2, h3⟩ := (h.2.1 z).1 (hm.2 (.inl h1)); exact ⟨.inl h2, h3⟩
      · exact ⟨.inr rfl, ho⟩
      · obtain ⟨h2, h3⟩ := (h.2.1 z).1 (hm.2 (.inr h1)); exact ⟨.inl h2, h3⟩
    · rintro ⟨h1 | rfl, h2⟩
      · rcases hm.1 ((h.2.1 z).2 ⟨h1, h2⟩) with h3 | h3
        · exact .inl h3
        · exact .inr (.inr h3)
      · exact .inr (.inl rfl)
  · have := h.2.2
    have := hp.1
    simp
    omega
/-- The document's view while it is made. -/
structure RV (W wr : World) (g own next base : Nat) (b : Option Addr) (cp : Nat) (ys : List Nat) : Prop where
  blk : wr.heap[g]? = some (.cells #[.int .u64 own, .int .u64 next, .slice b ys.length cp] 50 (0, 0))
  row : wr.ownsRow base 27 1 (.slice b ys.length cp) ys.length (nums ys)
  kept : OthersKept W wr (fun k => k = g)

set_option maxHeartbeats 8000000 in
set_option maxRecDepth 100000 in
theorem rof_any (own next : Nat) (sv : Value) (xs : List Nat) (w : World) (hl : xs.length ≤ 1000000) (h : NumsAt w sv xs) :
    Calls Try.prog 31 #[.int .u64 own, .int .u64 next, sv] w fun e w' => ∃ v', e = .returned (viewV own next v') ∧ ∃ ys, OfL own next xs ys ∧ w'.ownsRow w.heap.size 27 1 v' ys.length (nums ys) ∧ Below w.heap.size w w' := by
  obtain ⟨W1, hW1⟩ : ∃ W, W = w.alloc (.cells #[.int .u64 0, .int .u64 0, .slice none 0 0] 50) := ⟨_, rfl⟩
  obtain ⟨W2, hW2⟩ : ∃ W, W = W1.alloc (.cells #[.int .u64 own, .int .u64 next, .slice none 0 0] 50) := ⟨_, rfl⟩
  have s1 : W1.heap.size = w.heap.size + 1 := by rw [hW1]; simp
  have s2 : W2.heap.size = w.heap.size + 2 := by rw [hW2]; simp [s1]
  have B1 : W1.heap[w.heap.size]? = some (.cells #[.int .u64 0, .int .u64 0, .slice none 0 0] 50 (0, 0)) := by rw [hW1]; exact heap_alloc_new w _
  have B2 : W2.heap[w.heap.size + 1]? = some (.cells #[.int .u64 own, .int .u64 next, .slice none 0 0] 50 (0, 0)) := by rw [hW2, ← s1]; exact heap_alloc_new W1 _
  have B1' : W2.heap[w.heap.size]? = some (.cells #[.int .u64 0, .int .u64 0, .slice none 0 0] 50 (0, 0)) := by rw [hW2]; exact heap_keep B1
  have hB : Below w.heap.size w W2 := by
    rw [hW2, hW1]
    exact ((Below.refl _ _).alloc (Nat.le_refl _) _).alloc (by simp) _
  have HB := Lib.hid hB
  have HS2 := Lib.hid s2
  have P1 := Lib.hid B1'
  have HN0 := Lib.hid h
  have RV0 : Hid (RV W2 W2 (w.heap.size + 1) own next (w.heap.size + 2) none 0 []) := ⟨B2, World.ownsRow_nil _ _ _ _, OthersKept.of_below (Below.refl _ _)⟩
  obtain ⟨A, cpx, rfl, r2, r3, r4, r5⟩ := h
  obtain ⟨n, hn⟩ : ∃ n, n = xs.length := ⟨_, rfl⟩
  rw [← hn] at r2 hl ⊢
  unfold maxLen at r3
  have HNn := Lib.hid hn
  obtain ⟨j0, ji, jz0, jz1, jz2⟩ := info_parts (P := Try.prog) (e := 27) (z := .int .u64 0) (size := 1) (bytes := 8) (by kernel_rfl)
  rw [← hn] at HN0
  rw [hW1] at hW2
  clear hB B1 B2 B1' s1 s2 hW1 hn r4 r5
  go_enter Try.func31, Try.ntmps31
  go_wp2_with fail
  rw [← hW2]
  clear hW2
  go_loopw [8] (fun s8 wr => ∃ (i : Nat) (b : Option Addr) (cp : Nat) (ys : List Nat), s8 = .int .i64 i ∧ i ≤ n ∧ Hid (RV W2 wr (w.heap.size + 1) own next (w.heap.size + 2) b cp ys) ∧ Hid (RInv own next xs i ys)) (fun v _ => n - (intOf v).toNat)
  case atStart => exact ⟨0, none, 0, [], rfl, Nat.zero_le _, RV0, ⟨List.Pairwise.nil, fun z => by simp, Nat.le_refl _⟩⟩
  case round =>
    obtain ⟨i, b, cp, ys, rfl, hi, HV, HI⟩ := hrel
    by_cases hc : i < n
    · have hci : (i : Int) < (n : Int) := by omega
      obtain ⟨A', cp', e1, u1, u2, u3, u4⟩ := HN0.out
      injection e1 with e1 e2 e3
      subst e1 e3
      obtain ⟨b0, o0, rfl, hb0, hcell⟩ := u4 (by omega)
      have hix : i < xs.length := by omega
      have c1 : wr.cell? ⟨b0, o0 + i, none⟩ = some (.int .u64 (xs[i] : Nat)) := HV.out.kept.cell (keep_cell HB.out (hcell i hix)) (by show b0 ≠ w.heap.size + 1; omega)
      have q1 : (0 : Int) ≤ (i : Int) := by omega
      have SK := Lib.hid fun ho => HI.out.skip hix ho
      have IN := Lib.hid fun k ho hp => HI.out.ins (k := k) hix ho hp
      have hRIS := Lib.hid HI.out.1
      have hlen := HI.out.2.2
      have c2 : wr.cell? ⟨w.heap.size + 1, 2, none⟩ = some (.slice b ys.length cp) := blk_cell HV.out.blk 2
      have HAS := Lib.hid fun y => has_u64 (.slice b ys.length cp) ys y wr (nums_own HV.out.row).1
      have hi8 : i ≤ 1000000 := by omega
      clear hcell u2 u1 u3 u4 e2
      generalize xs[i] = y at *
      by_cases hx : next ≤ y
      · have hxi : (next : Int) ≤ (y : Int) := by omega
        have HV2 : Hid (outV own next y = true) := by show _ = _; unfold outV; rw [decide_eq_true hx]; rfl
        have HI2 := Lib.hid (SK.out (.inl HV2.out))
        clear hx
        go_wp2_with fail
        go_roundw
        case rel => exact ⟨i + 1, b, cp, ys, by go_num, by omega, HV, HI2⟩
        case measure => simp [intOf] <;> omega
      · have hxi : ¬ (next : Int) ≤ (y : Int) := by omega
        by_cases ho : y = own
        · have hoi : (y : Int) = (own : Int) := by omega
          have hob : ((y : Int) == (own : Int)) = true := by simpa using hoi
          have HV2 : Hid (outV own next y = true) := by show _ = _; unfold outV; rw [decide_eq_true ho]; simp
          have HI2 := Lib.hid (SK.out (.inl HV2.out))
          clear ho
          go_wp2_with fail
          go_roundw
          case rel => exact ⟨i + 1, b, cp, ys, by go_num, by omega, HV, HI2⟩
          case measure => simp [intOf] <;> omega
        · have hob : ((y : Int) == (own : Int)) = false := by simp; omega
          have HV2 : Hid (outV own next y = false) := by show _ = _; unfold outV; rw [decide_eq_false ho, decide_eq_false hx]; rfl
          go_wp2_with fail
          refine (HAS.out y).mono ?_
          rintro e w1 ⟨rfl, rfl⟩
          by_cases hm : y ∈ ys
          · have HI2 := Lib.hid (SK.out (.inr hm))
            have hmd : decide (y ∈ ys) = true := decide_eq_true hm
            rw [hmd]
            clear hmd hm
            go_wp2_with fail
            go_roundw
            case rel => exact ⟨i + 1, b, cp, ys, by go_num, by omega, HV, HI2⟩
            case measure => simp [intOf] <;> omega
          · have hmd : decide (y ∈ ys) = false := decide_eq_false hm
            have HM := Lib.hid hm
            rw [hmd]
            clear hmd hm
            have hcm : ys.length ≤ cp ∧ cp ≤ 2 ^ 63 - 1 := by
              obtain ⟨b', c', he, h1, h2, _⟩ := own_form HV.out.row
              injection he with _ _ he
              subst he
              exact ⟨h1, h2⟩
            have NA := Lib.hid (nums_own HV.out.row).1
            obtain ⟨m, hm⟩ : ∃ m, m = ys.length := ⟨_, rfl⟩
            have HMm := Lib.hid hm
            rw [← hm] at c2 hlen hcm NA
            obtain ⟨hm1, hm2⟩ := hcm
            clear hm
            go_upto_block 2 with fail
            go_cut [10] (fun s10 w' => ∃ k : Nat, s10 = .int .i64 k ∧ Hid (PosAt ys y k) ∧ w' = w1)
            case first =>
              go_wp2_with fail
              go_loopw [10] (fun s10 wr => ∃ k : Nat, s10 = .int .i64 k ∧ k ≤ m ∧ wr = w1 ∧ Hid (∀ j (h : j < ys.length), j < k → ys[j] < y)) (fun v _ => m - (intOf v).toNat)
              case atStart => exact ⟨0, rfl, Nat.zero_le _, rfl, fun j h h0 => absurd h0 (Nat.not_lt_zero j)⟩
              case round =>
                obtain ⟨k, rfl, hkm, rfl, hJ⟩ := hrel
                by_cases hk : k < m
                · have hki : (k : Int) < (m : Int) := by omega
                  have hkx : k < ys.length := by rw [← HMm.out]; exact hk
                  obtain ⟨A5, cp5, e5, _, _, _, v5⟩ := NA.out
                  injection e5 with e5 e6 e7
                  subst e5
                  obtain ⟨b5, o5, rfl, hb5, hc5⟩ := v5 (by omega)
                  have z1 := hc5 k hkx
                  have q5 : (0 : Int) ≤ (k : Int) := by omega
                  have HJ2 := Lib.hid (show ys[k] < y → ∀ j (h : j < ys.length), j < k + 1 → ys[j] < y from fun h0 j h h1 => by
                    by_cases e : j = k
                    · subst e; exact h0
                    · exact hJ.out j h (by omega))
                  have HPO := Lib.hid (show ¬ ys[k] < y → PosAt ys y k from fun h0 => ⟨by omega, hJ.out, fun j h h1 => by
                    have hne : ys[k] ≠ y := fun e => HM.out (by rw [← e]; exact List.getElem_mem hkx)
                    by_cases e : j = k
                    · subst e; omega
                    · have := List.pairwise_iff_getElem.1 hRIS.out k j hkx h (by omega)
                      omega⟩)
                  clear hc5 v5 e6 e7
                  generalize ys[k] = x at *
                  by_cases hxy : x < y
                  · have hxyi : (x : Int) < (y : Int) := by omega
                    have HJ3 := Lib.hid (HJ2.out hxy)
                    go_wp2_with fail
                    go_roundw
                    case rel => exact ⟨k + 1, by go_num, by omega, by first | rfl | trivial, HJ3.out⟩
                    case measure => simp [intOf] <;> omega
                  · have hxyi : ¬ (x : Int) < (y : Int) := by omega
                    have HP3 := Lib.hid (HPO.out hxy)
                    go_wp2_with fail
                    go_meet
                    exact ⟨k, rfl, HP3, by first | rfl | trivial⟩
                · have hki : ¬ (k : Int) < (m : Int) := by omega
                  have HP3 := Lib.hid (show PosAt ys y k from ⟨by have := HMm.out; omega, hJ.out, fun j h h1 => by have := HMm.out; omega⟩)
                  go_wp2_with fail
                  go_meet
                  exact ⟨k, rfl, HP3, by first | rfl | trivial⟩
            case rest =>
              obtain ⟨k, rfl, HP, rfl⟩ := hcut
              have hkm : k ≤ m := by have := HP.out.1; have := HMm.out; omega
              have HI2 := Lib.hid (IN.out k HV2.out HP.out)
              have DT : wc.ownsRow (w.heap.size + 2) 27 1 (.slice b m cp) m (nums ys) := by have := HV.out.row; rwa [← HMm.out] at this
              have FT := Lib.hid (reads_front DT k hkm)
              have GT := Lib.hid (reads_back DT k hkm)
              have q5 : (0 : Int) ≤ (k : Int) := by omega
              have q6 : (k : Int) ≤ (m : Int) := by omega
              have q7 : (k : Int) ≤ (cp : Int) := by omega
              have hms : m ≤ 1000000 := by omega
              clear DT
              go_wp2_with (at_builtin; refine wpList_append_any _ rfl (.tmp 55) (.tmp 59) 35 rfl wc.heap.size 27 j0 (.int .u64 0) 1 8 Try.underlying35 ji jz0 jz1 jz2 rfl (by decide) (.slice none 0 0) (0) ([]) (by rfl) (World.ownsRow_nil _ _ _ _) (.slice b k cp) (k) ((nums ys).take k) (by rfl) (FT.out) (fun u hu => nums_one _ u (List.mem_of_mem_take hu)) (by unfold maxLen; omega) (by omega) (Nat.le_refl _) ?_; intro v8 w8 ho hg; refine Aside.out ?_)
              have HO8 := Lib.hid ho
              have HB8 := Lib.hid (below_own (Below.refl _ _) (World.ownsRow_nil wc wc.heap.size 27 1) (Nat.le_refl _) hg)
              clear ho hg
              unfold Aside
              go_wp2_with (at_builtin; refine wpList_append_any _ rfl (.tmp 61) (.tmp 63) 35 rfl wc.heap.size 27 j0 (.int .u64 0) 1 8 Try.underlying35 ji jz0 jz1 jz2 rfl (by decide) v8 (0 + k) ([] ++ (nums ys).take k) (by rfl) (HO8.out.alloc _) (.slice (some ⟨w8.heap.size, 0, none⟩) 1 1) (1) ([.int .u64 (y : Nat)]) (by rfl) (.inr ⟨_, 1, rfl, rfl, one_new _ _ _⟩) (fun u hu => by rw [List.mem_singleton.1 hu]; rfl) (by unfold maxLen; omega) (by omega) (by have := HB8.out.size; simp; omega) ?_; intro v10 w10 ho hg; refine Aside.out ?_)
              have HO10 := Lib.hid ho
              have HB10 := Lib.hid (below_own (HB8.out.alloc HB8.out.size (.cells #[.int .u64 (y : Nat)] 27)) (HO8.out.alloc _) (Nat.le_refl _) hg)
              clear ho hg
              have c2 := keep_cell HB10.out c2
              unfold Aside
              go_wp2_with (at_builtin; refine wpList_append_any _ rfl (.tmp 65) (.tmp 69) 35 rfl wc.heap.size 27 j0 (.int .u64 0) 1 8 Try.underlying35 ji jz0 jz1 jz2 rfl (by decide) v10 (0 + k + 1) ([] ++ (nums ys).take k ++ [.int .u64 (y : Nat)]) (by rfl) (HO10.out) (.slice (if cp = k then b else Option.map (fun x => x.add k) b) (m - k) (cp - k)) (m - k) ((nums ys).drop k) (by rfl) (GT.out.below HB10.out) (fun u hu => nums_one _ u (List.mem_of_mem_drop hu)) (by unfold maxLen; omega) (by omega) (HB10.out.size) ?_; intro v11 w11 ho hg; refine Aside.out ?_)
              all_goals
                have HB11 := Lib.hid (below_own HB10.out HO10.out (Nat.le_refl _) hg)
                have hR : [] ++ (nums ys).take k ++ [.int .u64 (y : Nat)] ++ (nums ys).drop k = nums (ys.take k ++ y :: ys.drop k) := by simp [nums, List.map_take, List.map_drop]
                have hN : 0 + k + 1 + (m - k) = (ys.take k ++ y :: ys.drop k).length := by have := HMm.out; simp; omega
                rw [hR, hN] at ho
                have HBLK := Lib.hid ((HB11.out.block _ (blk_lt HV.out.blk)).trans HV.out.blk)
                have c3 : w11.cell? ⟨w.heap.size + 1, 2, none⟩ = some (.slice b ys.length cp) := blk_cell HBLK.out 2
                have f3 := blk_frozen HBLK.out 2
                have HBK := Lib.hid HBLK.out
                clear c2
                generalize ys.take k ++ y :: ys.drop k = zs at *
                obtain ⟨b11, cp11, rfl, _, _, _⟩ := own_form ho
                have HSZ : W2.heap.size ≤ wc.heap.size := HV.out.kept.size
                have HRV : Hid (RV W2 (w11.setCell ⟨w.heap.size + 1, 2, none⟩ (.slice b11 zs.length cp11)) (w.heap.size + 1) own next (w.heap.size + 2) b11 cp11 zs) := by
                  refine ⟨?_, own_down (own_set_far ho (fun x hx => ?_)) (by have := HS2.out; omega), (HV.out.kept.then_below HB11.out).trans (OthersKept.of_grown (p := fun k => k = w.heap.size + 1) (g := w.heap.size + 1) (grown_set (grown_refl _ _)) rfl) (fun _ _ h => h)⟩
                  · have xb := blk_set HBLK.out 2 (.slice b11 zs.length cp11)
                    simp only [List.setIfInBounds_toArray, List.set_cons_zero, List.set_cons_succ] at xb
                    exact xb
                  · have := own_block ho x hx
                    have := HS2.out
                    omega
                clear ho hg hR hN FT GT HO8 HB8 HO10 HB10
                unfold Aside
                go_wp2_with fail
                go_roundw
                case rel => exact ⟨i + 1, b11, cp11, zs, by go_num, by omega, HRV, HI2⟩
                case measure => simp [intOf] <;> omega
    · have hci : ¬ (i : Int) < (n : Int) := by omega
      have hin : i = n := by omega
      subst hin
      have hg6 : w.heap.size ≠ w.heap.size + 1 := by omega
      have X6 := Lib.hid (HV.out.kept.heap P1.out (by omega))
      obtain ⟨x0, x1, x2, x3, x4, x5⟩ := cells3 X6.out
      obtain ⟨y0, y1, y2, _, _, _⟩ := cells3 HV.out.blk
      have xb := blk_set (blk_set (blk_set X6.out 0 (.int .u64 own)) 1 (.int .u64 next)) 2 (.slice b ys.length cp)
      simp only [List.setIfInBounds_toArray, List.set_cons_zero, List.set_cons_succ] at xb
      have hset : OthersKept wr (((wr.setCell ⟨w.heap.size, 0, none⟩ (.int .u64 own)).setCell ⟨w.heap.size, 1, none⟩ (.int .u64 next)).setCell ⟨w.heap.size, 2, none⟩ (.slice b ys.length cp)) (fun k => k = w.heap.size) := OthersKept.of_grown (p := fun k => k = w.heap.size) (g := w.heap.size) (grown_set (grown_set (grown_set (grown_refl _ _)))) rfl
      have HO5 := Lib.hid (hset.owns HV.out.row (fun k hk h => by have := own_block HV.out.row k hk; omega))
      have HK5 := Lib.hid (OthersKept.below HB.out (((HV.out.kept.mono (q := fun k => w.heap.size ≤ k) (fun k h => by omega))).trans hset (fun k hk h => by omega)) (fun k hk h => by omega))
      have HXB := Lib.hid xb
      have HL := Lib.hid (show OfL own next xs ys from ⟨HI.out.1, fun z => by rw [HI.out.2.1 z, List.take_of_length_le (by have := HNn.out; omega)], by have := HI.out.2.2; have := HNn.out; omega⟩)
      clear hset xb
      go_wp2_with fail
      refine bodyPost_ret (v := viewV own next (.slice b ys.length cp)) (results_cell_row (p := 6) (by kernel_rfl) _ _ w.heap.size 50 _ (0, 0) _ rfl HXB.out Try.underlying50 rfl (by kernel_rfl)) rfl ?_
      exact ⟨_, rfl, ys, HL.out, own_down HO5.out (by omega), HK5.out⟩

end Go.Proofs.Ytoeaakadpillnaa
