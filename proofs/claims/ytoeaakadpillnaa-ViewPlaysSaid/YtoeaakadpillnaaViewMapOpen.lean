/- chapter 24: Open. -/
import Derived.Test.YtoeaakadpillnaaRows
import Derived.Test.YtoeaakadpillnaaViewMapGet
import Derived.Test.YtoeaakadpillnaaViewMapNew
import Derived.Test.YtoeaakadpillnaaViewMap
import Derived.Test.YtoeaakadpillnaaViewStaysPlain
import Derived.Test.YtoeaakadpillnaaViewNil
import Derived.Test.YtoeaakadpillnaaNumsIn
import Derived.Test.YtoeaakadpillnaaViewCopied
import Derived.Test.YtoeaakadpillnaaViewWorks
import Derived.Test.YtoeaakadpillnaaViewRef
import Derived.Test.YtoeaakadpillnaaViewOf
import Derived.Test.YtoeaakadpillnaaViewSame
import Derived.Test.YtoeaakadpillnaaViewSees
import Derived.Test.YtoeaakadpillnaaViewNums
import Derived.Test.YtoeaakadpillnaaLockRefTake
import Derived.Test.YtoeaakadpillnaaLockPlain
import Derived.Test.YtoeaakadpillnaaSortUTop
import Derived.Test.YtoeaakadpillnaaLockRef
import Derived.Test.YtoeaakadpillnaaKept
import Derived.Test.YtoeaakadpillnaaQuietTail
import Derived.Test.YtoeaakadpillnaaAppAny
import Derived.Deep.LoopGhost
import Derived.Deep.CutBlock
import Derived.Lib.SliceRun
import Derived.Laws.ResultCell
import Derived.Maps.OwnSet
import Derived.Maps.RangeWalk
import Derived.WalkKit
import Derived.WalkLawsBesides
import Derived.WalkSpells
import Derived.LoopTactic
import Derived.WalkMore
import Derived.LoopN
import Derived.Laws.BitsAllLaws
import Derived.Laws.IdiomStrings
import Derived.BigQuiet
import Derived.Deep.QuietTactic
import Derived.Deep.DeepCutAuto
import Derived.Deep.RegionHeld3
import Derived.Deep.DrawnRows
import Derived.Lib.Hide
import Derived.Outline
import Derived.Deep.DeepMust
import Derived.Handy
namespace Go.Proofs.Ytoeaakadpillnaa
open Go.RowKit
set_option linter.unusedVariables false
set_option linter.unusedSimpArgs false

open Go.Maps
set_option maxHeartbeats 4000000 in
set_option maxRecDepth 100000 in
theorem vwOpen (w : World) {g m base n : Nat} {T : VT} (h : VwAt w g m base T n) (hbase : base ≤ w.heap.size) (own next : Nat) (b : Option Addr) (c : Nat) (xs : List Nat) (hN : NumsAt w (.slice b xs.length c) xs) (hl : xs.length ≤ 1000000) (id : Nat) (hid : 1 ≤ id) (hid2 : id ≤ 64) (hfree : T id = none) (hleast : ∀ j : Nat, 1 ≤ j → j < id → T j ≠ none) (hn : n < 1000) :
    Calls Try.prog 47 #[.pointer (some ⟨g, 0, none⟩), viewV own next (.slice b xs.length c)] w fun r w' => r = .returned (.tuple #[.int .i64 id, .int .i64 0]) ∧ ∃ b' c', VwAt w' g m base (T.put id ⟨own, next, b', c', xs⟩) (n + 1) ∧ OthersKept w w' (fun k => k = m) := by
  obtain ⟨W1, hW1⟩ : ∃ W, W = w.alloc (.cells #[.int .u64 own, .int .u64 next, .slice b xs.length c] 50) := ⟨_, rfl⟩
  have hB1 : Below w.heap.size w W1 := by rw [hW1]; exact (Below.refl _ _).alloc (Nat.le_refl _) _
  have P1 := Lib.hid (show W1.heap[w.heap.size]? = some (.cells #[.int .u64 own, .int .u64 next, .slice b xs.length c] 50 (0, 0)) by rw [hW1]; exact heap_alloc_new w _)
  have s1 : W1.heap.size = w.heap.size + 1 := by rw [hW1]; simp
  have HV := Lib.hid (h.below hB1)
  have M := Lib.hid (vwMade W1 HV.out)
  have HNx := Lib.hid (hN.below hB1)
  have HB1 := Lib.hid hB1
  have HL := Lib.hid hleast
  have HF := Lib.hid hfree
  have hmg : m ≠ g := fun e => h.ne e.symm
  have hmw := h.lt
  have hmb := h.hm
  obtain ⟨ln, hln⟩ : ∃ ln, ln = xs.length := ⟨_, rfl⟩
  have HLN := Lib.hid hln
  simp only [← hln] at P1 hW1 HNx hl ⊢
  clear h hB1 hleast hfree hln hN
  go_enter Try.func47, Try.ntmps47
  go_upto_region 1 with fail
  rw [← hW1]
  clear hW1
  go_wp2_with fail
  refine M.out.mono ?_
  rintro e w1 ⟨rfl, rfl⟩
  go_wp2_with fail
  go_loopw [6] (fun s6 wr => ∃ j : Nat, s6 = .int .i64 j ∧ 1 ≤ j ∧ j ≤ id ∧ Below W1.heap.size W1 wr) (fun v _ => id + 1 - (intOf v).toNat)
  case atStart => exact ⟨1, rfl, Nat.le_refl _, hid, Below.refl _ _⟩
  case round =>
    obtain ⟨j, rfl, hj1, hj2, hb⟩ := hrel
    have HB := Lib.hid hb
    have hv := HV.out.below hb
    have c0 := hv.c0
    have hji : (j : Int) ≤ 64 := by omega
    by_cases hj : j = id
    · subst hj
      have lk := hv.lookN (k := (j : Int)) (by omega) (by omega) HF.out
      have hB2 : Below wr.heap.size wr (wr.alloc (.cells #[.int .u64 0, .int .u64 0, .slice none 0 0] 50)) := (Below.refl _ _).alloc (Nat.le_refl _) _
      have HB2 := Lib.hid (below_trans2 hb hB2)
      have HV2 := Lib.hid (hv.below hB2)
      clear hv hb hB2
      go_upto_region 8 with fail
      clear c0 lk
      generalize wr.alloc (.cells #[.int .u64 0, .int .u64 0, .slice none 0 0] 50) = W2 at *
      have CE := Lib.hid (show ∀ W, Below W2.heap.size W2 W → W.cell? ⟨g, 0, none⟩ = some (.map (some m)) ∧ W.cell? ⟨w.heap.size, 0, none⟩ = some (.int .u64 own) ∧ W.cell? ⟨w.heap.size, 1, none⟩ = some (.int .u64 next) ∧ W.cell? ⟨w.heap.size, 2, none⟩ = some (.slice b ln c) from fun W hW => by
        have hp := (below_trans2 HB2.out hW).block _ (blk_lt P1.out)
        obtain ⟨a1, a2, a3, _, _, _⟩ := cells3 (hp.trans P1.out)
        exact ⟨(HV2.out.below hW).c0, a1, a2, a3⟩)
      have CO := Lib.hid fun W (hW : Below W2.heap.size W2 W) => vcopied_any own next (.slice b ln c) xs W (by rw [← HLN.out]; exact hl) ((HNx.out.below HB2.out).below hW)
      have UPD := Lib.hid fun W (hW : Below W2.heap.size W2 W) bb cc hr => (HV2.out.below hW).upd (k := (j : Int)) (by omega) (by omega) HF.out hn ⟨own, next, bb, cc, xs⟩ hr (by rw [← HLN.out]; exact hl)
      have hD : Below W2.heap.size W2 W2.drew := (Below.refl _ _).drew
      have CE0 := CE.out _ (Below.refl W2.heap.size W2)
      have SET := Lib.hid (show ∀ W W', W.grownBy W' (some m) → Below W2.heap.size W2 W → W'.cell? ⟨g, 0, none⟩ = some (.map (some m)) ∧ W'.cell? ⟨w.heap.size, 0, none⟩ = some (.int .u64 own) ∧ W'.cell? ⟨w.heap.size, 1, none⟩ = some (.int .u64 next) ∧ W'.cell? ⟨w.heap.size, 2, none⟩ = some (.slice b ln c) from fun W W' hg hW => by
        obtain ⟨a0, a1, a2, a3⟩ := CE.out W hW
        have hk := OthersKept.of_grown (p := fun k => k = m) hg rfl
        exact ⟨hk.cell a0 (fun e => hmg e.symm), hk.cell a1 (by show w.heap.size ≠ m; omega), hk.cell a2 (by show w.heap.size ≠ m; omega), hk.cell a3 (by show w.heap.size ≠ m; omega)⟩)
      go_region_held3 (fun W => W.cell? ⟨g, 0, none⟩ = some (.map (some m)) ∧ W.cell? ⟨w.heap.size, 0, none⟩ = some (.int .u64 own) ∧ W.cell? ⟨w.heap.size, 1, none⟩ = some (.int .u64 next) ∧ W.cell? ⟨w.heap.size, 2, none⟩ = some (.slice b ln c))
        (first
          | (with_reducible exact CE0)
          | (with_reducible exact CE.out _ hD)
          | (with_reducible exact CE.out _ k4)
          | (with_reducible exact SET.out _ _ hg5 k4)
          | exact CE0)
        (first
          | (go_at_call 74; refine (CO.out _ hD).mono ?_; rintro e w4 ⟨b4, c4, rfl, ho4, hb4⟩; have k4 := below_trans2 hD hb4; obtain ⟨w5, hrun, hv5, hg5⟩ := UPD.out w4 k4 b4 c4 (own_down ho4 (by have := HB2.out.size; simp; omega)); simp only [VE.val, VE.sv] at hrun))
      all_goals
        have HV5 := Lib.hid hv5
        have HK5 := Lib.hid ((OthersKept.of_below (p := fun k => k = m) (OthersKept.below HB1.out (OthersKept.of_below (p := fun _ => False) (below_trans2 HB2.out k4)) (fun _ _ h => h))).trans (OthersKept.of_grown (p := fun k => k = m) (g := m) hg5 rfl) (fun _ _ h => h))
        clear hv5 hg5 hrun ho4 hb4
        go_wp2_with fail
        (try simp only [Exit.inBlock, Exit.then]); refine bodyPost_ret (results_tmp2 rfl _ _ _) rfl ?_
        exact ⟨rfl, b4, c4, HV5.out, HK5.out⟩
    · have hne := HL.out j hj1 (by omega)
      obtain ⟨e, he⟩ : ∃ e, T (j : Int) = some e := by
        cases hT : T (j : Int) with
        | none => exact absurd hT hne
        | some e => exact ⟨e, rfl⟩
      have lk := hv.look (k := (j : Int)) (by omega) (by omega) he
      obtain ⟨o2, n2, b2, c2, xs2⟩ := e
      simp only [VE.val, VE.sv] at lk
      have HB2 := Lib.hid (below_trans2 hb ((Below.refl wr.heap.size wr).alloc (Nat.le_refl _) (.cells #[.int .u64 o2, .int .u64 n2, .slice b2 xs2.length c2] 50)))
      clear hv hb he hne
      go_wp2_with fail
      go_roundw
      case rel => exact ⟨j + 1, by go_num, by omega, by omega, HB2.out⟩
      case measure => simp [intOf] <;> omega

end Go.Proofs.Ytoeaakadpillnaa
