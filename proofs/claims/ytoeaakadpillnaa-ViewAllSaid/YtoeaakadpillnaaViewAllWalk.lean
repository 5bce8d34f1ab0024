/- chapter 24: ViewAll. -/
import Derived.Test.YtoeaakadpillnaaRows
import Derived.Test.YtoeaakadpillnaaViewAllPlain
import Derived.Test.YtoeaakadpillnaaViewMapOpen
import Derived.Test.YtoeaakadpillnaaViewMapGet
import Derived.Test.YtoeaakadpillnaaViewMapNew
import Derived.Test.YtoeaakadpillnaaViewMap
import Derived.Test.YtoeaakadpillnaaViewStaysPlain
import Derived.Test.YtoeaakadpillnaaViewNil
import Derived.Test.YtoeaakadpillnaaNumsIn
import Derived.Test.YtoeaakadpillnaaViewCopied
import Derived.Test.YtoeaakadpillnaaViewWorks
import Derived.Test.YtoeaakadpillnaaViewRef
import Derived.Test.YtoeaakadpillnaaViewOf
import Derived.Test.YtoeaakadpillnaaViewSame
import Derived.Test.YtoeaakadpillnaaViewSees
import Derived.Test.YtoeaakadpillnaaViewNums
import Derived.Test.YtoeaakadpillnaaLockRefTake
import Derived.Test.YtoeaakadpillnaaLockPlain
import Derived.Test.YtoeaakadpillnaaSortUTop
import Derived.Test.YtoeaakadpillnaaLockRef
import Derived.Test.YtoeaakadpillnaaKept
import Derived.Test.YtoeaakadpillnaaQuietTail
import Derived.Test.YtoeaakadpillnaaAppAny
import Derived.Deep.LoopGhost
import Derived.Deep.CutBlock
import Derived.Lib.SliceRun
import Derived.Laws.ResultCell
import Derived.Maps.OwnSet
import Derived.Maps.RangeWalk
import Derived.WalkKit
import Derived.WalkLawsBesides
import Derived.WalkSpells
import Derived.LoopTactic
import Derived.WalkMore
import Derived.LoopN
import Derived.Laws.BitsAllLaws
import Derived.Laws.IdiomStrings
import Derived.BigQuiet
import Derived.Deep.QuietTactic
import Derived.Deep.DeepCutAuto
import Derived.Deep.RegionHeld3
import Derived.Deep.DrawnRows
import Derived.Lib.Hide
import Derived.Outline
import Derived.Deep.DeepMust
import Derived.Handy
namespace Go.Proofs.Ytoeaakadpillnaa
open Go.RowKit
set_option linter.unusedVariables false
set_option linter.unusedSimpArgs false

open Go.Maps
set_option maxHeartbeats 16000000 in
set_option maxRecDepth 100000 in
theorem viewAll_any (A : Option Addr) (n cap tx which : Nat) (L : List VE) (w : World) (hn : L.length = n) (hcap : n ≤ cap) (hcm : cap ≤ maxLen) (hwh : which < 256) (hL : ViewsAt w A L) :
    Calls Try.prog 11 #[.slice A n cap, .int .u64 tx, .int .u8 which] w fun e w' => e = .returned (.bool true) ∧ Below w.heap.size w w' := by
  have WK := Lib.hid vworks
  have HLA := Lib.hid hL
  have HLN := Lib.hid hn
  have NEW := Lib.hid vwNew
  unfold maxLen at hcm
  clear hL hn
  go_enter Try.func11, Try.ntmps11
  by_cases hx : n > 40
  · have hxi : (n : Int) > 40 := by omega
    go_wp2_with fail
    refine (WK.out _).mono ?_
    rintro e w2 ⟨rfl, hb⟩
    have HB2 := Lib.hid hb
    clear hb
    go_wp2_with fail
    go_ret
    exact ⟨rfl, HB2.out⟩
  have hxi : ¬ (n : Int) > 40 := by omega
  by_cases h0 : n = 0
  · subst h0
    go_wp2_with fail
    refine (WK.out _).mono ?_
    rintro e w2 ⟨rfl, hb⟩
    have HB2 := Lib.hid hb
    clear hb
    go_wp2_with fail
    go_ret
    exact ⟨rfl, HB2.out⟩
  have h0i : ¬ (n : Int) = 0 := by omega
  have h0b : ((n : Int) == 0) = false := by simpa using h0i
  go_wp2_with fail
  refine (NEW.out _).mono ?_
  rintro e w1 ⟨g, m, rfl, hv1, hg1, hm1, hs1, hb1⟩
  have HV1 := Lib.hid hv1
  have HB1 := Lib.hid hb1
  obtain ⟨b0, o0, rfl, hb0, hc0⟩ := HLA.out.1 (by have := HLN.out; omega)
  have HC0 := Lib.hid hc0
  clear hv1 hb1 hc0 hx h0
  go_wp2_with fail
  go_loopw [8, 9] (fun s8 s9 wr => ∃ (i : Nat) (all : Bool) (T : VT), s8 = .bool all ∧ s9 = .int .i64 i ∧ i ≤ n ∧ VwAt wr g m (w.heap.size + 2) T i ∧ Below w.heap.size w wr ∧ w.heap.size + 2 ≤ wr.heap.size ∧ Hid (VA L tx i T all) ∧ Hid (∀ j (h : j < L.length), j < i → L[j].xs.length ≤ 1000000)) (fun _ v _ => n - (intOf v).toNat)
  case atStart => exact ⟨0, true, _, rfl, rfl, Nat.zero_le _, HV1.out, HB1.out, by omega, VA.start L tx, fun j h h0 => absurd h0 (Nat.not_lt_zero j)⟩
  case round =>
    obtain ⟨i, all, T, rfl, rfl, hi, hV, hB, hsz, HA, HSM⟩ := hrel
    have HV := Lib.hid hV
    have HB := Lib.hid hB
    clear hV hB
    by_cases hc : i < n
    · have hci : (i : Int) < (n : Int) := by omega
      have hix : i < L.length := by rw [HLN.out]; exact hc
      have q1 : (0 : Int) ≤ (i : Int) := by omega
      have CE := Lib.hid (show ∀ W, Below w.heap.size w W → W.cell? ⟨b0, o0 + i * 3, none⟩ = some (.int .u64 (L[i].own : Nat)) ∧ W.cell? ⟨b0, o0 + i * 3 + 1, none⟩ = some (.int .u64 (L[i].next : Nat)) ∧ W.cell? ⟨b0, o0 + i * 3 + 2, none⟩ = some (.slice L[i].b L[i].xs.length L[i].c) from fun W hW => by
        obtain ⟨a1, a2, a3⟩ := HC0.out i hix
        exact ⟨keep_cell hW a1, keep_cell hW a2, keep_cell hW a3⟩)
      have HNI := Lib.hid (show ∀ W, Below w.heap.size w W → NumsAt W (.slice L[i].b L[i].xs.length L[i].c) L[i].xs from fun W hW => (HLA.out.2 L[i] (List.getElem_mem hix)).below hW)
      have STEP := Lib.hid fun b c all2 h2 => HA.out.step hix b c all2 h2
      have FREE := Lib.hid HA.out.free
      have LEAST := Lib.hid (HA.out.least (by omega))
      have GETI := Lib.hid (show ∀ T' all', VA L tx (i + 1) T' all' → ∃ b c, T' ((i + 1 : Nat) : Int) = some ⟨L[i].own, L[i].next, b, c, L[i].xs⟩ from fun T' all' h => h.get hix)
      have HSEE := Lib.hid (show ∀ T' all' b, VA L tx (i + 1) T' all' → (b = true ↔ ∀ k e, T' k = some e → seesV e.own e.next e.xs tx = true) → b = all' from fun T' all' b h h2 => h.sees (by omega) h2)
      have HSMS := Lib.hid (show L[i].xs.length ≤ 30 → ∀ j (h : j < L.length), j < i + 1 → L[j].xs.length ≤ 1000000 from fun h30 j h h1 => by
        by_cases e : j = i
        · subst e; omega
        · exact HSM.out j h (by omega))
      generalize L[i] = e0 at *
      obtain ⟨own, next, b, c, xs⟩ := e0
      simp only at CE HNI STEP GETI HSMS
      obtain ⟨ln, hln⟩ : ∃ ln, ln = xs.length := ⟨_, rfl⟩
      have HLX := Lib.hid hln
      simp only [← hln] at CE HNI
      clear hln hix
      obtain ⟨x0, x1, x2⟩ := CE.out wr HB.out
      by_cases hlx : ln > 30
      · have hlxi : (ln : Int) > 30 := by omega
        go_wp2_with fail
        refine (WK.out _).mono ?_
        rintro e w2 ⟨rfl, hb⟩
        have HB2 := Lib.hid (OthersKept.below HB.out (OthersKept.of_below (p := fun _ => False) hb) (fun _ _ h => h))
        clear hb
        go_wp2_with fail
        (try simp only [Exit.inBlock, Exit.then]); refine bodyPost_ret (results_tmp rfl _ _ _) rfl ?_
        exact ⟨rfl, HB2.out⟩
      · have hlxi : ¬ (ln : Int) > 30 := by omega
        have CO := Lib.hid fun W (hW : Below w.heap.size w W) => lcopied_any own next (.slice b ln c) xs W (by rw [← HLX.out]; omega) (HNI.out W hW)
        go_wp2_with fail
        refine (CO.out _ HB.out).mono ?_
        rintro e w2 ⟨v2, rfl, ho2, hb2⟩
        obtain ⟨b2, c2, rfl, _, _, _⟩ := own_form ho2
        have hN2 := (nums_own ho2).1
        have HB2 := Lib.hid (OthersKept.below HB.out (OthersKept.of_below (p := fun _ => False) hb2) (fun _ _ h => h))
        have hsz2 := hb2.size
        have HV2 := Lib.hid (HV.out.below hb2)
        have OP : Hid (Calls Try.prog 47 #[.pointer (some ⟨g, 0, none⟩), viewV own next (.slice b2 xs.length c2)] w2 fun r w' => r = .returned (.tuple #[.int .i64 ((i + 1 : Nat) : Int), .int .i64 0]) ∧ ∃ b' c', VwAt w' g m (w.heap.size + 2) (T.put ((i + 1 : Nat) : Int) ⟨own, next, b', c', xs⟩) (i + 1) ∧ OthersKept w2 w' (fun k => k = m)) :=
          vwOpen w2 HV2.out (by omega) own next b2 c2 xs hN2 (by rw [← HLX.out]; omega) (i + 1) (by omega) (by omega) FREE.out LEAST.out (by omega)
        clear ho2 hb2 hN2
        obtain ⟨i1, hi1⟩ : ∃ i1, i1 = i + 1 := ⟨_, rfl⟩
        have ei1 : (i : Int) + 1 = (i1 : Int) := by omega
        have HSM2 := Lib.hid (HSMS.out (by rw [← HLX.out]; omega))
        rw [← hi1] at OP STEP GETI HSEE HSM2
        have hi2 : i + 1 = i1 := hi1.symm
        clear hi1 x0 x1 x2 hlx
        simp only [← HLX.out] at OP ⊢
        go_wp2_with fail
        refine OP.out.mono ?_
        rintro e w3 ⟨rfl, b3, c3, hv3, hk3⟩
        have HV3 := Lib.hid hv3
        have HB3 := Lib.hid (OthersKept.below HB2.out hk3 (fun k hk h => by omega))
        have hsz3 := hk3.size
        clear hv3 hk3
        have hne1 : ((i1 : Int) != (i1 : Int)) = false := by simp
        go_upto_region 13 with fail
        go_cut [8] (fun s8 w' => ∃ all2 : Bool, s8 = .bool all2 ∧ (all2 = true ↔ all = true ∧ seesV own next xs tx = true) ∧ Below w3.heap.size w3 w')
        case first =>
          cases all with
          | false =>
            go_wp2_with fail
            go_meet
            exact ⟨false, rfl, by simp, Below.refl _ _⟩
          | true =>
            obtain ⟨x0, x1, x2⟩ := CE.out w3 HB3.out
            go_wp2_with fail
            refine (CO.out _ HB3.out).mono ?_
            rintro e w4 ⟨v4, rfl, ho4, hb4⟩
            obtain ⟨b4, c4, rfl, _, _, _⟩ := own_form ho4
            have SE := Lib.hid (sees_any own next tx (.slice b4 xs.length c4) xs w4 (nums_own ho4).1)
            have HB4 := Lib.hid hb4
            clear ho4 hb4 x0 x1 x2
            go_wp2_with fail
            refine SE.out.mono ?_
            rintro e w5 ⟨rfl, hb5⟩
            have HB5 := Lib.hid (below_trans2 HB4.out hb5)
            clear hb5
            generalize seesV own next xs tx = sb at *
            go_wp2_with fail
            go_meet
            exact ⟨sb, rfl, by simp, HB5.out⟩
        case rest =>
          obtain ⟨all2, rfl, hall, hb4⟩ := hcut
          have HVA2 := Lib.hid (STEP.out b3 c3 all2 hall)
          have HVc := Lib.hid (HV3.out.below hb4)
          have HBc := Lib.hid (OthersKept.below HB3.out (OthersKept.of_below (p := fun _ => False) hb4) (fun _ _ h => h))
          have hszc : w.heap.size + 2 ≤ wc.heap.size := by have := hb4.size; omega
          have AL := Lib.hid (vwAll wc tx HVc.out)
          clear hall hb4
          go_wp2_with fail
          refine AL.out.mono ?_
          rintro e w5 ⟨bb, rfl, hbb, hb5⟩
          obtain rfl := HSEE.out _ _ bb HVA2.out hbb
          have hbb2 : (bb != bb) = false := by simp
          have HV5 := Lib.hid (HVc.out.below hb5)
          have HB5 := Lib.hid (OthersKept.below HBc.out (OthersKept.of_below (p := fun _ => False) hb5) (fun _ _ h => h))
          have hsz5 : w.heap.size + 2 ≤ w5.heap.size := by have := hb5.size; omega
          obtain ⟨bq, cq, hTq⟩ := GETI.out _ _ HVA2.out
          have HTQ := Lib.hid hTq
          have GE := Lib.hid (vwGet w5 HV5.out _ _ hTq)
          have hg5 := HV5.out.hg
          have hm5 := HV5.out.hm
          clear hbb hb5 hTq
          go_wp2_with fail
          refine GE.out.mono ?_
          rintro e w6 ⟨b6, c6, rfl, ho6, hb6⟩
          simp only [← HLX.out] at ho6 ⊢
          have HV6 := Lib.hid (HV5.out.below hb6)
          have HB6 := Lib.hid hb6
          have HO6 := Lib.hid ho6
          have hlt6 := ho6.lt
          have hsz6 := hb6.size
          clear ho6 hb6
          obtain ⟨W7, hW7⟩ : ∃ W, W = w6.alloc (.cells #[.int .u64 own, .int .u64 next, .slice b6 ln c6] 50) := ⟨_, rfl⟩
          have hB7 : Below w6.heap.size w6 W7 := by rw [hW7]; exact (Below.refl _ _).alloc (Nat.le_refl _) _
          have K7 := Lib.hid (show W7.heap[w6.heap.size]? = some (.cells #[.int .u64 own, .int .u64 next, .slice b6 ln c6] 50 (0, 0)) by rw [hW7]; exact heap_alloc_new w6 _)
          have hs7 : W7.heap.size = w6.heap.size + 1 := by rw [hW7]; simp
          have HV7 := Lib.hid (HV6.out.below hB7)
          have HB57 := Lib.hid (below_trans2 HB6.out hB7)
          have HB7 := Lib.hid (OthersKept.below HB5.out (OthersKept.of_below (p := fun _ => False) HB57.out) (fun _ _ h => h))
          have HO7 := Lib.hid (own_below HO6.out hB7)
          have SM : Hid (∀ W : World, Below W7.heap.size W7 W → Calls Try.prog 32 #[viewV own next (.slice b6 ln c6), viewV own next (.slice b ln c)] W fun e w' => e = .returned (.bool true) ∧ Below W.heap.size W w') := fun W hW => by
            have h := same_any own next own next (.slice b6 ln c6) (.slice b ln c) xs xs W ((nums_own HO7.out).1.below hW) (HNI.out W (OthersKept.below HB7.out (OthersKept.of_below (p := fun _ => False) hW) (fun _ _ h => h)))
            rwa [show sameV own next xs own next xs = true by unfold sameV; simp] at h
          clear hB7
          go_upto_region 17 with fail
          rw [← hW7]
          clear hW7
          obtain ⟨y0, y1, y2, _, _, _⟩ := cells3 K7.out
          obtain ⟨x0, x1, x2⟩ := CE.out W7 HB7.out
          have hb0lt : b0 < W7.heap.size := by omega
          have e1 := ext_cell y0 (show w6.heap.size < W7.heap.size by omega)
          have e2 := ext_cell y1 (show w6.heap.size < W7.heap.size by omega)
          have e3 := ext_cell y2 (show w6.heap.size < W7.heap.size by omega)
          have e4 := ext_cell x0 hb0lt
          have e5 := ext_cell x1 hb0lt
          have e6 := ext_cell x2 hb0lt
          have SMX := Lib.hid fun W => SM.out W
          refine wp_region_ext W7.heap.size (by kernel_rfl) (by kernel_rfl) ?_
          repeat (go_big_quiet_step (first | (go_at_call 32; exact ext_call _ (Nat.le_refl _) (SM.out _ (Ext.below _)))))
          refine wpQuiet_nil ?_
          rintro _ ⟨X, rfl⟩
          have HX := Lib.hid X.below
          have K8 := Lib.hid ((HX.out.block _ (blk_lt K7.out)).trans K7.out)
          have HV8 := Lib.hid (HV7.out.below HX.out)
          have HB8 := Lib.hid (OthersKept.below HB7.out (OthersKept.of_below (p := fun _ => False) HX.out) (fun _ _ h => h))
          have HO8 := Lib.hid (own_below HO7.out HX.out)
          have hsz8 := HX.out.size
          have HROW := Lib.hid (show ∀ k e, (T.put (i1 : Int) ⟨own, next, b3, c3, xs⟩) k = some e → ∀ x, e.sv.ownBlock = some x → x < w5.heap.size from fun k e he x hx => ((HV5.out.rows k e he).1.lt x hx).2)
          generalize X.val = W8 at *
          clear x0 x1 x2 y0 y1 y2 e1 e2 e3 e4 e5 e6 SMX
          have HLX2 := HLX.out
          have hln8 : ln ≤ 1000000 := by omega
          clear HLX2
          obtain ⟨hf1, hf2, hf3⟩ : ln ≤ c6 ∧ c6 ≤ maxLen ∧ (0 < ln → ∃ gv, b6 = some ⟨gv, 0, none⟩ ∧ w5.heap.size ≤ gv) := by
            obtain ⟨b', c', he, h1, h2, h3⟩ := own_form HO6.out
            injection he with ea eb ec
            subst ea ec
            exact ⟨h1, h2, h3⟩
          have HF3 := Lib.hid hf3
          unfold maxLen at hf2
          clear hf3
          go_wp2_with fail
          go_loopw [14] (fun s14 wr => ∃ (k : Nat) (d : List Nat), s14 = .int .i64 k ∧ k ≤ ln ∧ wr.ownsRow w5.heap.size 27 1 (.slice b6 ln c6) ln (nums d) ∧ OthersKept W8 wr (fun x => w5.heap.size ≤ x ∧ x < w6.heap.size)) (fun v _ => ln - (intOf v).toNat)
          case atStart => exact ⟨0, xs, rfl, Nat.zero_le _, HO8.out, OthersKept.of_below (Below.refl _ _)⟩
          case round =>
            obtain ⟨k, d, rfl, hk, hrow, hkp⟩ := hrel
            have hk12 := hkp.heap K8.out (by omega)
            obtain ⟨y0, y1, y2, _, _, _⟩ := cells3 hk12
            by_cases hkc : k < ln
            · have hkci : (k : Int) < (ln : Int) := by omega
              obtain ⟨gv, rfl, hgv⟩ := HF3.out (by omega)
              have hR : RowU wr w5.heap.size gv ln c6 d.toArray := ⟨by have := (nums_own hrow).2; simpa using this, by simpa using hrow⟩
              have z1 := hR.cell k hkc
              have z2 := hR.frozen k
              have q5 : (0 : Int) ≤ (k : Int) := by omega
              have HR2 := Lib.hid (hR.set k tx hkc).own
              have hgv2 : gv < w6.heap.size := (hlt6 gv rfl).2
              have HK2 := Lib.hid (hkp.trans (OthersKept.of_grown (p := fun x => w5.heap.size ≤ x ∧ x < w6.heap.size) (g := gv) (grown_set (i := k) (u := .int .u64 (tx : Nat)) (grown_refl wr gv)) ⟨hgv, hgv2⟩) (fun _ _ h => h))
              clear hR hrow hkp hk12
              go_wp2_with fail
              go_roundw
              case rel => exact ⟨k + 1, _, by go_num, by omega, HR2.out, HK2.out⟩
              case measure => simp [intOf] <;> omega
            · have hkci : ¬ (k : Int) < (ln : Int) := by omega
              have HV9 := Lib.hid (HV8.out.kept hkp (by omega) (by omega) (fun k' e' he' x hx h => by have := HROW.out k' e' he' x hx; omega))
              have HB9 := Lib.hid (OthersKept.below HB8.out hkp (fun k hk h => by omega))
              have hsz9 := hkp.size
              have GE2 := Lib.hid (vwGet wr HV9.out _ _ HTQ.out)
              clear hrow hkp hk12
              go_wp2_with fail
              refine GE2.out.mono ?_
              rintro e z6 ⟨b9, c9, rfl, ho6, hb6⟩
              simp only [← HLX.out] at ho6 ⊢
              have HVz := Lib.hid (HV9.out.below hb6)
              have HBz := Lib.hid (OthersKept.below HB9.out (OthersKept.of_below (p := fun _ => False) hb6) (fun _ _ h => h))
              have HOz := Lib.hid ho6
              have hszz := hb6.size
              clear ho6 hb6 y0 y1 y2
              obtain ⟨Z7, hZ7⟩ : ∃ W, W = z6.alloc (.cells #[.int .u64 own, .int .u64 next, .slice b9 ln c9] 50) := ⟨_, rfl⟩
              have hB7 : Below z6.heap.size z6 Z7 := by rw [hZ7]; exact (Below.refl _ _).alloc (Nat.le_refl _) _
              have KZ := Lib.hid (show Z7.heap[z6.heap.size]? = some (.cells #[.int .u64 own, .int .u64 next, .slice b9 ln c9] 50 (0, 0)) by rw [hZ7]; exact heap_alloc_new z6 _)
              have hsZ : Z7.heap.size = z6.heap.size + 1 := by rw [hZ7]; simp
              have HVZ := Lib.hid (HVz.out.below hB7)
              have HBZ := Lib.hid (OthersKept.below HBz.out (OthersKept.of_below (p := fun _ => False) hB7) (fun _ _ h => h))
              have HOZ := Lib.hid (own_below HOz.out hB7)
              have SMZ : Hid (∀ W : World, Below Z7.heap.size Z7 W → Calls Try.prog 32 #[viewV own next (.slice b9 ln c9), viewV own next (.slice b ln c)] W fun e w' => e = .returned (.bool true) ∧ Below W.heap.size W w') := fun W hW => by
                have h := same_any own next own next (.slice b9 ln c9) (.slice b ln c) xs xs W ((nums_own HOZ.out).1.below hW) (HNI.out W (OthersKept.below HBZ.out (OthersKept.of_below (p := fun _ => False) hW) (fun _ _ h => h)))
                rwa [show sameV own next xs own next xs = true by unfold sameV; simp] at h
              clear hB7
              go_upto_region 24 with fail
              rw [← hZ7]
              clear hZ7
              obtain ⟨y0, y1, y2, _, _, _⟩ := cells3 KZ.out
              obtain ⟨x0, x1, x2⟩ := CE.out Z7 HBZ.out
              have hb0lt2 : b0 < Z7.heap.size := by omega
              have e1 := ext_cell y0 (show z6.heap.size < Z7.heap.size by omega)
              have e2 := ext_cell y1 (show z6.heap.size < Z7.heap.size by omega)
              have e3 := ext_cell y2 (show z6.heap.size < Z7.heap.size by omega)
              have e4 := ext_cell x0 hb0lt2
              have e5 := ext_cell x1 hb0lt2
              have e6 := ext_cell x2 hb0lt2
              refine wp_region_ext Z7.heap.size (by kernel_rfl) (by kernel_rfl) ?_
              repeat (go_big_quiet_step (first | (go_at_call 32; exact ext_call _ (Nat.le_refl _) (SMZ.out _ (Ext.below _)))))
              refine wpQuiet_nil ?_
              rintro _ ⟨X, rfl⟩
              have HXZ := Lib.hid X.below
              have HVF := Lib.hid (HVZ.out.below HXZ.out)
              have HBF := Lib.hid (OthersKept.below HBZ.out (OthersKept.of_below (p := fun _ => False) HXZ.out) (fun _ _ h => h))
              have hszF := HXZ.out.size
              clear x0 x1 x2 y0 y1 y2 e1 e2 e3 e4 e5 e6
              go_wp2_with fail
              go_roundw
              case rel => exact ⟨i1, bb, _, rfl, rfl, by omega, HVF.out, HBF.out, by omega, HVA2.out, HSM2.out⟩
              case measure => simp [intOf] <;> omega
    · have hci : ¬ (i : Int) < (n : Int) := by omega
      obtain rfl : i = n := by omega
      obtain ⟨k, hk⟩ : ∃ k, k = which % i := ⟨_, rfl⟩
      have hi0 : 0 < i := by omega
      have t1 : ((which : Nat) : Int).tmod (i : Int) = (k : Int) := by rw [Int.tmod_eq_emod_of_nonneg (by omega)]; rw [hk]; exact (Int.natCast_emod _ _).symm
      have hki : k < i := by rw [hk]; exact Nat.mod_lt _ hi0
      have t2 : IntKind.i64.wrap ((which : Nat) : Int) = (which : Int) := IntWalk.i64_in _ ⟨by omega, by omega⟩
      have t3 : IntKind.i64.wrap ((k : Nat) : Int) = (k : Int) := IntWalk.i64_in _ ⟨by omega, by omega⟩
      obtain ⟨nm, hnm⟩ : ∃ nm, nm = i - 1 := ⟨_, rfl⟩
      have hnm1 : nm + 1 = i := by omega
      have enm : (i : Int) - 1 = (nm : Int) := by omega
      obtain ⟨k1, hk1⟩ : ∃ k1, k1 = k + 1 := ⟨_, rfl⟩
      have hk1b : k + 1 = k1 := hk1.symm
      have ek1 : (k : Int) + 1 = (k1 : Int) := by omega
      obtain ⟨bq, cq, hTq⟩ := HA.out.at_ k (by rw [HLN.out]; exact hki) hki
      rw [ek1] at hTq
      have hVn : VwAt wr g m (w.heap.size + 2) T (nm + 1) := by rw [hnm1]; exact HV.out
      have CL := Lib.hid (vwClose wr hVn (k1 : Int) _ hTq)
      have HSMALL := Lib.hid (show ∀ j (h : j < L.length), L[j].xs.length ≤ 1000000 from fun j h => HSM.out j h (by rw [← HLN.out]; exact h))
      have HAL : VA L tx L.length T all := by rw [HLN.out]; exact HA.out
      have REST := Lib.hid fun b r h1 h2 => HAL.rest (k := k) (b := b) (r := r) (by rw [HLN.out]; exact hki) h1 h2
      clear HAL
      have hnn : ((nm : Int) != (nm : Int)) = false := by simp
      clear hk hnm hk1 hTq hVn
      go_wp2_with fail
      refine CL.out.mono ?_
      rintro e w2 ⟨rfl, hv2, hk2⟩
      have HV2 := Lib.hid hv2
      have HB2 := Lib.hid (OthersKept.below HB.out hk2 (fun k hk h => by omega))
      have LE := Lib.hid (vwLen w2 hv2)
      clear hv2 hk2 t1 t2 t3
      go_wp2_with fail
      refine LE.out.mono ?_
      rintro e w3 ⟨rfl, rfl⟩
      go_wp2_with fail
      go_loopw [18, 19] (fun s18 s19 wr => ∃ (j : Nat) (r : Bool), s18 = .bool r ∧ s19 = .int .i64 j ∧ j ≤ i ∧ Below w3.heap.size w3 wr ∧ Hid (r = true ↔ ∀ t (h : t < L.length), t < j → t = k ∨ seesV L[t].own L[t].next L[t].xs tx = true)) (fun _ v _ => i - (intOf v).toNat)
      case atStart => exact ⟨0, true, rfl, rfl, Nat.zero_le _, Below.refl _ _, ⟨fun _ t h h0 => absurd h0 (Nat.not_lt_zero t), fun _ => rfl⟩⟩
      case round =>
        obtain ⟨j, r, rfl, rfl, hj, hb, HR⟩ := hrel
        have HB3 := Lib.hid hb
        have HBw := Lib.hid (OthersKept.below HB2.out (OthersKept.of_below (p := fun _ => False) hb) (fun _ _ h => h))
        have HVr := Lib.hid (HV2.out.below hb)
        clear hb
        by_cases hjc : j < i
        · have hjci : (j : Int) < (i : Int) := by omega
          have q1 : (0 : Int) ≤ (j : Int) := by omega
          have hjx : j < L.length := by rw [HLN.out]; exact hjc
          have ST := Lib.hid (show ∀ r2 : Bool, (r2 = true ↔ r = true ∧ (j = k ∨ seesV L[j].own L[j].next L[j].xs tx = true)) → (r2 = true ↔ ∀ t (h : t < L.length), t < j + 1 → t = k ∨ seesV L[t].own L[t].next L[t].xs tx = true) from fun r2 h2 => by
            rw [h2, HR.out]
            constructor
            · rintro ⟨h3, h4⟩ t ht htj
              by_cases e : t = j
              · subst e; exact h4
              · exact h3 t ht (by omega)
            · intro h3
              exact ⟨fun t ht htj => h3 t ht (by omega), h3 j hjx (by omega)⟩)
          cases r with
          | false =>
            have HR2 : Hid (false = true ↔ ∀ t (h : t < L.length), t < j + 1 → t = k ∨ seesV L[t].own L[t].next L[t].xs tx = true) := ST.out false (by simp)
            clear ST
            go_wp2_with fail
            go_roundw
            case rel => exact ⟨j + 1, false, rfl, by go_num, by omega, HB3.out, HR2⟩
            case measure => simp [intOf] <;> omega
          | true =>
            by_cases hjk : j = k
            · have HR2 : Hid (true = true ↔ ∀ t (h : t < L.length), t < j + 1 → t = k ∨ seesV L[t].own L[t].next L[t].xs tx = true) := ST.out true (by simp [hjk])
              have hjkb : ((j : Int) == (k : Int)) = true := by simp; omega
              clear ST hjk
              go_wp2_with fail
              go_roundw
              case rel => exact ⟨j + 1, true, rfl, by go_num, by omega, HB3.out, HR2⟩
              case measure => simp [intOf] <;> omega
            · have hjkb : ((j : Int) == (k : Int)) = false := by simp; omega
              obtain ⟨a1, a2, a3⟩ := HC0.out j hjx
              have x0 := keep_cell HBw.out a1
              have x1 := keep_cell HBw.out a2
              have x2 := keep_cell HBw.out a3
              have HNJ := Lib.hid ((HLA.out.2 L[j] (List.getElem_mem hjx)).below HBw.out)
              have ST2 := Lib.hid (show ∀ r2 : Bool, (r2 = seesV L[j].own L[j].next L[j].xs tx) → (r2 = true ↔ ∀ t (h : t < L.length), t < j + 1 → t = k ∨ seesV L[t].own L[t].next L[t].xs tx = true) from fun r2 h2 => ST.out r2 (by rw [h2]; simp [hjk]))
              have HL30 : Hid (L[j].xs.length ≤ 1000000) := HSMALL.out j hjx
              clear a1 a2 a3 ST
              generalize L[j] = e0 at *
              obtain ⟨own, next, b, c, xs⟩ := e0
              simp only [VE.sv] at x0 x1 x2 HNJ ST2 HL30
              have CO := Lib.hid (lcopied_any own next (.slice b xs.length c) xs wr HL30.out HNJ.out)
              generalize xs.length = ln at *
              go_wp2_with fail
              refine CO.out.mono ?_
              rintro e z4 ⟨v4, rfl, ho4, hb4⟩
              obtain ⟨b4, c4, rfl, _, _, _⟩ := own_form ho4
              have hxl := (nums_own ho4).2
              have SE := Lib.hid (sees_any own next tx (.slice b4 ln c4) xs z4 (nums_own ho4).1)
              have HB4 := Lib.hid (below_trans2 HB3.out hb4)
              clear ho4 hb4 x0 x1 x2 hxl
              go_wp2_with fail
              refine SE.out.mono ?_
              rintro e z5 ⟨rfl, hb5⟩
              have HB5 := Lib.hid (below_trans2 HB4.out hb5)
              clear hb5
              have HR2 := Lib.hid (ST2.out _ rfl)
              generalize seesV own next xs tx = sb at *
              go_wp2_with fail
              go_roundw
              case rel => exact ⟨j + 1, sb, rfl, by go_num, by omega, HB5.out, HR2⟩
              case measure => simp [intOf] <;> omega
        · have hjci : ¬ (j : Int) < (i : Int) := by omega
          obtain rfl : j = i := by omega
          have AL := Lib.hid (vwAll wr tx HVr.out)
          go_wp2_with fail
          refine AL.out.mono ?_
          rintro e z4 ⟨bb, rfl, hbb, hb4⟩
          have hk1c : ((k1 : Nat) : Int) = ((k + 1 : Nat) : Int) := by omega
          have hbb3 : bb = r := REST.out bb r (by rw [hk1c] at hbb; exact hbb) (HR.out.trans ⟨fun h t ht _ => h t ht (by have := HLN.out; omega), fun h t ht _ => h t ht ht⟩)
          subst hbb3
          have hbb2 : (bb == bb) = true := by simp
          have HB4 := Lib.hid (OthersKept.below HBw.out (OthersKept.of_below (p := fun _ => False) hb4) (fun _ _ h => h))
          clear hbb hb4
          go_wp2_with fail
          refine (WK.out _).mono ?_
          rintro e z5 ⟨rfl, hb5⟩
          have HB5 := Lib.hid (OthersKept.below HB4.out (OthersKept.of_below (p := fun _ => False) hb5) (fun _ _ h => h))
          clear hb5
          go_wp2_with fail
          go_ret
          exact ⟨rfl, HB5.out⟩

end Go.Proofs.Ytoeaakadpillnaa
