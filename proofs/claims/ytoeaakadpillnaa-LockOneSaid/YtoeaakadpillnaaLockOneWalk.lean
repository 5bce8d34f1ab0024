/- LockOne: the walk. -/
import Derived.Test.YtoeaakadpillnaaRows
import Derived.Test.YtoeaakadpillnaaLockOnePlain
import Derived.Test.YtoeaakadpillnaaLockActs
import Derived.Test.YtoeaakadpillnaaLockWorks
import Derived.Test.YtoeaakadpillnaaLockRest
import Derived.Test.YtoeaakadpillnaaLockHeld
import Derived.Test.YtoeaakadpillnaaLockWalks
import Derived.Test.YtoeaakadpillnaaKept
import Derived.Test.YtoeaakadpillnaaQuietTail
import Derived.Deep.LoopGhost
import Derived.Sort.OwnSorted
import Derived.WalkKit
import Derived.WalkLawsBesides
import Derived.WalkSpells
import Derived.LoopTactic
import Derived.WalkMore
import Derived.LoopN
import Derived.Laws.BitsAllLaws
import Derived.Laws.IdiomStrings
import Derived.BigQuiet
import Derived.Deep.QuietTactic
import Derived.Deep.DeepCutAuto
import Derived.Deep.RegionHeld3
import Derived.Deep.DrawnRows
import Derived.Lib.Hide
import Derived.Outline
import Derived.Deep.DeepMust
import Derived.Handy
namespace Go.Proofs.Ytoeaakadpillnaa
open Go.RowKit
set_option linter.unusedVariables false
set_option linter.unusedSimpArgs false

def u64s (S : List Nat) : List Value := S.map fun x => .int .u64 (x : Nat)
theorem u64s_snoc (S : List Nat) (x : Nat) : u64s S ++ [.int .u64 (x : Nat)] = u64s (S ++ [x]) := by unfold u64s; rw [List.map_append]; rfl
theorem any_take (S : List Nat) (x j : Nat) (h : j < S.length) : (S.take (j + 1)).contains x = ((S.take j).contains x || (S[j] == x)) := by
  rw [List.take_succ_eq_append_getElem h, List.contains_eq_any_beq, List.contains_eq_any_beq, List.any_append]
  simp [Bool.beq_comm, eq_comm]
theorem bytesLess_eq2 (x y : Bs) : Op.bytesLess x y = decide (x < y) := Go.Proofs.bytesLess_eq x y
theorem lkWhoB (w : World) {g m : Nat} {T : Lk} (s : ByteArray) (hs : s.size ≤ maxLen) (h : LkAt w g m T) :
    Calls Try.prog 17 #[.pointer (some ⟨g, 0, none⟩), .string s] w fun e w' => e = .returned (.int .u64 ((who T s.data.toList).getD 0 : Nat)) ∧ Below w.heap.size w w' :=
  (lkWho w s hs h).mono fun _ _ ⟨h1, h2⟩ => ⟨h1, h2 ▸ Below.refl _ _⟩
theorem lkLenB (w : World) {g m : Nat} {T : Lk} (h : LkAt w g m T) :
    Calls Try.prog 18 #[.pointer (some ⟨g, 0, none⟩)] w fun e w' => e = .returned (.int .i64 (T.length : Nat)) ∧ Below w.heap.size w w' :=
  (lkLen w h).mono fun _ _ ⟨h1, h2⟩ => ⟨h1, h2 ▸ Below.refl _ _⟩
/-- The acts' transactions. -/
def txs (L : List La) : List Nat := L.map fun c => c.2.1
theorem txs_get (L : List La) (j : Nat) (h : j < (txs L).length) (h' : j < L.length) : (txs L)[j] = L[j].2.1 := List.getElem_map (fun c : La => c.2.1)
theorem txs_take (L : List La) (i : Nat) (h : i < L.length) : (txs L).take (i + 1) = (txs L).take i ++ [L[i].2.1] := by
  unfold txs
  rw [List.take_succ_eq_append_getElem (by simpa using h)]
  simp

set_option maxRecDepth 100000 in
set_option maxHeartbeats 8000000 in
theorem lockOne_walk (a : Option Addr) (b o len cap : Nat) (L : List La) (w : World) (hL : ActsAt w a b o len L) :
    Calls Try.prog 3 #[.slice a len cap] w fun e w' => e = .returned (.bool true) ∧ Below w.heap.size w w' := by
  by_cases hh : bulkA L ≤ 4000 ∧ len ≤ 150
  case neg =>
    have HV := Lib.hid (heavy_yes a b o len cap L w hL hh)
    clear hL hh
    go_enter Try.func3, Try.ntmps3
    go_wp2_with fail
    refine HV.out.mono ?_
    rintro e w1 ⟨rfl, rfl⟩
    go_wp2_with fail
    refine (works_any _).mono ?_
    rintro e w1 ⟨rfl, h⟩
    go_wp2_with fail
    go_ret
    exact ⟨rfl, h⟩
  have HV := Lib.hid (heavy_no a b o len cap L w hL hh.1 hh.2)
  have HL := Lib.hid hL
  have HH := Lib.hid hh
  have hlen := hh.2
  have HXL : Hid ((txs L).length = len) := by show _ = _; unfold txs; rw [List.length_map]; exact hL.n
  clear hL hh
  go_enter Try.func3, Try.ntmps3
  go_wp2_with fail
  refine HV.out.mono ?_
  rintro e w1 ⟨rfl, rfl⟩
  go_wp2_with fail
  refine (lkNew _).mono ?_
  rintro e w1 ⟨g, m, rfl, hK, hg, hm, hB⟩
  have HK1 := Lib.hid hK
  have HB1 := Lib.hid hB
  clear hK hB HV
  go_wp2_with fail
  go_loopw [4] (fun s4 wr => ∃ (i : Nat) (T : Lk), i ≤ len ∧ s4 = .int .i64 i ∧ LkAt wr g m T ∧ OwnedBy ((txs L).take i) T ∧ Below w.heap.size w wr) (fun i _ => len - (intOf i).toNat)
  case atStart => exact ⟨0, [], Nat.zero_le _, rfl, HK1.out, (fun p hp => by cases hp), HB1.out⟩
  case round =>
    obtain ⟨i, T, hi, rfl, hK, hO, hB⟩ := hrel
    have HK := Lib.hid hK
    have HO := Lib.hid hO
    have HB := Lib.hid hB
    clear hK hO hB HK1 HB1
    by_cases hc : i < len
    case neg =>
      obtain rfl : i = len := by omega
      as_aux_lemma =>
        have hoo := HO.out
        rw [List.take_of_length_le (by rw [HXL.out]; exact Nat.le_refl _)] at hoo
        have HL0 := Lib.hid (LeftOf.start hoo)
        clear hoo HO
        go_wp2_with fail
        go_loopw [18] (fun s18 wr => ∃ (j : Nat) (T : Lk), j ≤ i ∧ s18 = .int .i64 j ∧ LkAt wr g m T ∧ LeftOf (txs L) j T ∧ Below w.heap.size w wr) (fun j _ => i - (intOf j).toNat)
        case atStart => exact ⟨0, T, Nat.zero_le _, rfl, HK.out, HL0.out, HB.out⟩
        case round =>
          obtain ⟨j, T5, hj, rfl, hK, hLf, hB⟩ := hrel
          have HKj := Lib.hid hK
          have HLj := Lib.hid hLf
          have HBj := Lib.hid hB
          clear hK hLf hB HK HB HL0
          by_cases hcj : j < i
          · obtain ⟨rfl, hlt⟩ := HL.out.at_ (by omega)
            have hjL : j < L.length := by rw [HL.out.n]; exact hcj
            obtain ⟨c0, c1, c2⟩ := (HL.out.below HBj.out).cell j hjL
            have hjx : j < (txs L).length := by rw [HXL.out]; exact hcj
            have hst := HLj.out.step hjx
            have ex : (txs L)[j] = L[j].2.1 := txs_get L j hjx hjL
            rw [ex] at hst
            have HST := Lib.hid hst
            have q0 : (0 : Int) ≤ (j : Int) := by omega
            have q1 : (j : Int) < (i : Int) := by omega
            clear c0 c2 hst ex
            generalize L[j].2.1 = tx at *
            go_wp2_with fail
            refine (lkDrop _ tx HKj.out).mono ?_
            rintro e w10 ⟨rfl, hK10, hk10⟩
            have HK10 := Lib.hid hK10
            have HB10 := Lib.hid (show Below w.heap.size w w10 from hk10.below HBj.out (fun k hk e => by omega))
            clear hK10 hk10 c1
            go_wp2_with fail
            go_roundw
            case rel => exact ⟨j + 1, _, by omega, by go_num, HK10.out, HST.out, HB10.out⟩
            case measure => simp [intOf]; omega
          · obtain rfl : j = i := by omega
            have hT0 : T5 = [] := by
              have := HLj.out
              rw [← HXL.out] at this
              exact this.fin
            subst hT0
            go_wp2_with fail
            refine (lkLen _ HKj.out).mono ?_
            rintro e w2 ⟨rfl, rfl⟩
            go_wp2_with fail
            refine (works_any _).mono ?_
            rintro e w2 ⟨rfl, h2⟩
            have HB2 := Lib.hid (below_then HBj.out h2)
            clear h2
            go_wp2_with fail
            go_ret
            exact ⟨rfl, HB2.out⟩
    obtain ⟨rfl, hlt⟩ := HL.out.at_ (by omega)
    have hiL : i < L.length := by rw [HL.out.n]; exact hc
    obtain ⟨c0, c1, c2⟩ := (HL.out.below HB.out).cell i hiL
    have hks : L[i].2.2.size ≤ 4000 := by have h1 := bulkA_mem (List.getElem_mem hiL); have h2 := HH.out.1; omega
    have hdo := (HL.out.ok _ (List.getElem_mem hiL)).1
    have htx := (HL.out.ok _ (List.getElem_mem hiL)).2.1
    have HTX := Lib.hid (txs_take L i hiL)
    have q0 : (0 : Int) ≤ (i : Int) := by omega
    have q1 : (i : Int) < (len : Int) := by omega
    generalize L[i].2.2 = S at *
    generalize L[i].2.1 = tx at *
    generalize L[i].1 = D at *
    have hsm : S.size ≤ maxLen := by unfold maxLen; omega
    have HSM := Lib.hid hsm
    clear hsm
    have HB2 : Hid (Below wr.heap.size wr (wr.alloc (.cells #[.int .u8 D, .int .u64 tx, .string S] 29))) := (Below.refl _ _).alloc (Nat.le_refl _) _
    have HA2 := Lib.hid (heap_alloc_new wr (.cells #[.int .u8 D, .int .u64 tx, .string S] 29))
    have HK2 := Lib.hid (HK.out.below HB2.out)
    have HBB2 := Lib.hid (below_then HB.out HB2.out)
    have TK := Lib.hid fun W (hW : LkAt W g m T) => lkTake W tx S htx HSM.out hW
    have hways := take_ways HK.out.rising HO.out tx S.data.toList
    have HO3 : Hid (OwnedBy ((txs L).take (i + 1)) (takeL T tx S.data.toList).1) := by
      show OwnedBy _ _
      rw [HTX.out]
      exact take_own HO.out tx _
    have HWY := Lib.hid hways
    clear hways htx
    go_wp2_with fail
    refine (lkWho _ S HSM.out HK2.out).mono ?_
    rintro e w3 ⟨rfl, rfl⟩
    go_wp2_with fail
    refine (lkLen _ HK2.out).mono ?_
    rintro e w3 ⟨rfl, rfl⟩
    go_wp2_with fail
    refine (TK.out _ HK2.out).mono ?_
    rintro e w4 ⟨rfl, hK4, hG4⟩
    have HK4 := Lib.hid hK4
    have HB4 := Lib.hid (show Below w.heap.size w w4 from HBB2.out.grown hG4 HBB2.out.size (fun j hj => by cases hj; exact hm))
    have hA4 : w4.heap[wr.heap.size]? = some (.cells #[.int .u8 D, .int .u64 tx, .string S] 29 (0, 0)) := (hG4.block _ (blk_lt HA2.out) (by have := (LkAt.lt HK.out).2; simp; omega)).trans HA2.out
    have HA4 := Lib.hid hA4
    have hbw : w.heap.size ≤ wr.heap.size := HB.out.size
    have hgb := HK.out.lt
    clear hK4 hG4 c0 c1 c2 hA4
    generalize wr.heap.size = bp at *
    generalize wr.alloc (.cells #[.int .u8 D, .int .u64 tx, .string S] 29) = w2 at *
    generalize hT2 : takeL T tx S.data.toList = R at *
    obtain ⟨T2, is, er⟩ := R
    have HT2 := Lib.hid hT2
    clear hT2
    simp only at HWY HO3
    go_upto_if 101 with fail
    go_cut [101] (fun s101 w' => s101 = .bool false ∧ LkAt w' g m T2 ∧ w'.heap[bp]? = some (.cells #[.int .u8 D, .int .u64 tx, .string S] 29 (0, 0)) ∧ Below w.heap.size w w')
    case first =>
      have HK5 : Hid (LkAt w4 g m T2) := HK4.out
      have p1 : w4.cell? ⟨bp, 1, none⟩ = some (.int .u64 tx) := by rw [blk_cell HA4.out 1]; rfl
      have p2 : w4.cell? ⟨bp, 2, none⟩ = some (.string S) := by rw [blk_cell HA4.out 2]; rfl
      have e1 := ext_cell p1 (cell_lt p1)
      have e2 := ext_cell p2 (cell_lt p2)
      have LN := Lib.hid fun W (hW : LkAt W g m T2) => lkLenB W hW
      have WH0 := fun W (hW : LkAt W g m T2) => lkWhoB W S HSM.out hW
      have FIN : Hid (∀ (W : World), Below w4.heap.size w4 W → LkAt W g m T2 ∧ W.heap[bp]? = some (.cells #[.int .u8 D, .int .u64 tx, .string S] 29 (0, 0)) ∧ Below w.heap.size w W) := by
        show ∀ W, _
        intro W hW
        exact ⟨HK5.out.below hW, (hW.block _ (blk_lt HA4.out)).trans HA4.out, below_then HB4.out hW⟩
      generalize hq0 : (who T S.data.toList).getD 0 = q0 at *
      generalize hq2 : (who T2 S.data.toList).getD 0 = q2 at *
      have WH := Lib.hid WH0
      have HQ0 := Lib.hid hq0
      have HQ2 := Lib.hid hq2
      have HTl : Hid (T2 = T → T2.length = T.length) := fun e => by rw [e]
      clear p1 p2 WH0 hq0 hq2
      have hcases : Hid ((is = false ∧ (er = 2 ∨ er = 4) ∧ T2.length = T.length ∧ q2 = q0) ∨ (is = false ∧ er = 250 ∧ T2.length = T.length ∧ q2 = q0 ∧ q0 ≠ 0 ∧ q0 ≠ tx) ∨ (is = false ∧ er = 0 ∧ q2 = tx ∧ q0 = tx ∧ tx ≠ 0) ∨ (is = true ∧ er = 0 ∧ q2 = tx ∧ q0 = 0)) := by
        show _ ∨ _
        rcases HWY.out with ⟨h1, h2, h3⟩ | ⟨t, h1, h2, h3, h4, h5, h6⟩ | ⟨h1, h2, h3, h4, h5⟩ | ⟨h1, h2, h3, h4, h5⟩
        · exact .inl ⟨h2, h3, by rw [h1], by rw [← HQ0.out, ← HQ2.out, h1]⟩
        · have e : q0 = t := by rw [← HQ0.out, h4]; rfl
          exact .inr (.inl ⟨h2, h3, by rw [h1], by rw [← HQ0.out, ← HQ2.out, h1], by rw [e]; exact h6, by rw [e]; exact h5⟩)
        · have e : q0 = tx := by rw [← HQ0.out, h4]; rfl
          exact .inr (.inr (.inl ⟨h2, h3, by rw [← HQ2.out, h1, h4]; rfl, e, h5⟩))
        · exact .inr (.inr (.inr ⟨h1, h2, by rw [← HQ2.out, h4]; rfl, by rw [← HQ0.out, h3]; rfl⟩))
      rcases hcases.out with ⟨rfl, h3, hl, rfl⟩ | ⟨rfl, rfl, hl, rfl, h6, h7⟩ | ⟨rfl, rfl, rfl, rfl, h5⟩ | ⟨rfl, rfl, rfl, rfl⟩
      · rw [hl] at LN
        clear hl
        rcases h3 with rfl | rfl
        all_goals
          as_aux_lemma =>
            refine wp_region_ext w4.heap.size (by kernel_rfl) (by kernel_rfl) ?_
            repeat (go_big_quiet_step (first
              | (go_at_call 18; exact ext_call _ (Nat.le_refl _) (LN.out _ (HK5.out.below (Ext.below _))))
              | (go_at_call 17; exact ext_call _ (Nat.le_refl _) (WH.out _ (HK5.out.below (Ext.below _))))))
            refine wpQuiet_nil ?_
            rintro _ ⟨X, rfl⟩
            have HX := Lib.hid (FIN.out _ X.below)
            go_wp2_with fail
            go_meet
            exact ⟨rfl, HX.out⟩
      · rw [hl] at LN
        have b1 : ((q2 : Int) == 0) = false := by simp; omega
        have b2 : ((q2 : Int) == (tx : Int)) = false := by simp; omega
        clear hl h6 h7
        as_aux_lemma =>
          refine wp_region_ext w4.heap.size (by kernel_rfl) (by kernel_rfl) ?_
          repeat (go_big_quiet_step (first
            | (go_at_call 18; exact ext_call _ (Nat.le_refl _) (LN.out _ (HK5.out.below (Ext.below _))))
            | (go_at_call 17; exact ext_call _ (Nat.le_refl _) (WH.out _ (HK5.out.below (Ext.below _))))))
          refine wpQuiet_nil ?_
          rintro _ ⟨X, rfl⟩
          have HX := Lib.hid (FIN.out _ X.below)
          go_wp2_with fail
          go_meet
          exact ⟨rfl, HX.out⟩
      · have b1 : ((q0 : Int) == 0) = false := by simp; omega
        have b2 : ((q0 : Int) != (q0 : Int)) = false := by simp
        clear h5
        as_aux_lemma =>
          refine wp_region_ext w4.heap.size (by kernel_rfl) (by kernel_rfl) ?_
          repeat (go_big_quiet_step (first
            | (go_at_call 18; exact ext_call _ (Nat.le_refl _) (LN.out _ (HK5.out.below (Ext.below _))))
            | (go_at_call 17; exact ext_call _ (Nat.le_refl _) (WH.out _ (HK5.out.below (Ext.below _))))))
          refine wpQuiet_nil ?_
          rintro _ ⟨X, rfl⟩
          have HX := Lib.hid (FIN.out _ X.below)
          go_wp2_with fail
          go_meet
          exact ⟨rfl, HX.out⟩
      · have b2 : ((q2 : Int) != (q2 : Int)) = false := by simp
        as_aux_lemma =>
          refine wp_region_ext w4.heap.size (by kernel_rfl) (by kernel_rfl) ?_
          repeat (go_big_quiet_step (first
            | (go_at_call 18; exact ext_call _ (Nat.le_refl _) (LN.out _ (HK5.out.below (Ext.below _))))
            | (go_at_call 17; exact ext_call _ (Nat.le_refl _) (WH.out _ (HK5.out.below (Ext.below _))))))
          refine wpQuiet_nil ?_
          rintro _ ⟨X, rfl⟩
          have HX := Lib.hid (FIN.out _ X.below)
          go_wp2_with fail
          go_meet
          exact ⟨rfl, HX.out⟩
    case rest =>
      obtain ⟨rfl, hK5, hA5, hB5⟩ := hcut
      have HK5 := Lib.hid hK5
      have HA5 := Lib.hid hA5
      have HB5 := Lib.hid hB5
      clear hK5 hA5 hB5 HK4 HB4 HA4 HA2 HK2 HBB2 HB2 HK HB HWY TK HO HT2
      obtain ⟨i0, hi0, hz0, hz1, hz2⟩ := info_parts (P := Try.prog) (e := 27) (z := .int .u64 0) (size := 1) (bytes := 8) (by kernel_rfl)
      have hrise := HK5.out.rising
      have hsmall := HK5.out.small
      have HRI := Lib.hid hrise
      clear hrise
      go_wp2_with fail
      go_loopw [10, 11, 12] (fun s10 s11 s12 wr => ∃ (kk : Nat) (S' : List Nat), kk ≤ i + 1 ∧ s12 = .int .i64 kk ∧ s10 = .int .i64 (heldBy T2 S' : Nat) ∧ wr.ownsRow (bp + 1) 27 1 s11 S'.length (u64s S') ∧ SeenBy ((txs L).take kk) S' ∧ S'.length ≤ kk ∧ LkAt wr g m T2 ∧ wr.heap[bp]? = some (.cells #[.int .u8 D, .int .u64 tx, .string S] 29 (0, 0)) ∧ Below w.heap.size w wr) (fun _ _ k _ => i + 1 - (intOf k).toNat)
      case atStart => exact ⟨0, [], Nat.zero_le _, rfl, rfl, World.ownsRow_nil _ _ _ _, SeenBy.start, Nat.le_refl _, HK5.out, HA5.out, HB5.out⟩
      case round =>
        obtain ⟨kk, S', hkk, rfl, rfl, hR, hS, hSl, hK, hA, hB⟩ := hrel
        have HR := Lib.hid hR
        have HS := Lib.hid hS
        have HK := Lib.hid hK
        have HA := Lib.hid hA
        have HB := Lib.hid hB
        have hby := heldBy_le (T := T2) hS.1
        clear hR hS hK hA hB HK5 HA5 HB5
        by_cases hck : kk < i + 1
        · have hkL : kk < L.length := by rw [HL.out.n]; omega
          obtain ⟨b4, cp4, rfl, hcp4, hcm4, hb4⟩ := own_form HR.out
          have HB4' := Lib.hid hb4
          unfold maxLen at hcm4
          have hkk2 : Hid (kk < i + 1) := hck
          have htk := txs_take L kk hkL
          have HTK := Lib.hid htk
          have HCE : Hid (∀ W, Below w.heap.size w W → W.cell? ⟨b, o + kk * 3 + 1, none⟩ = some (.int .u64 (L[kk].2.1 : Nat))) := fun W hW => ((HL.out.below hW).cell kk hkL).2.1
          have hktx := (HL.out.ok _ (List.getElem_mem hkL)).2.1
          have HKTX := Lib.hid hktx
          clear htk hb4 hktx
          generalize L[kk].2.1 = tk at *
          go_wp2_with fail
          obtain ⟨w5, hw5⟩ : ∃ W : World, W = wr := ⟨_, rfl⟩
          have HW5 := Lib.hid hw5
          have HOW : Hid (wr.ownsRow (bp + 1) 27 1 (.slice b4 S'.length cp4) S'.length (u64s S')) := HR.out
          go_loopw [13, 14] (fun s13 s14 wq => ∃ (j : Nat), j ≤ S'.length ∧ s14 = .int .i64 j ∧ s13 = .bool ((S'.take j).contains tk) ∧ Below w5.heap.size w5 wq) (fun _ j _ => S'.length - (intOf j).toNat)
          case atStart => exact ⟨0, Nat.zero_le _, rfl, rfl, by rw [hw5]; exact Below.refl _ _⟩
          case round =>
            obtain ⟨j, hj, rfl, rfl, hBq⟩ := hrel
            have HBq := Lib.hid hBq
            rw [← hw5] at HR HK HA HB HOW
            clear hBq hw5
            have HR2 := Lib.hid (own_below HR.out HBq.out)
            by_cases hcj : j < S'.length
            · obtain ⟨gv, rfl, hgv⟩ := HB4'.out (by omega)
              have t0 := own_cell HR2.out j (.int .u64 (S'[j] : Nat)) (by unfold u64s; rw [List.getElem?_map, List.getElem?_eq_getElem hcj]; rfl)
              have c1 := HCE.out wr (HB.out.trans (HBq.out.mono HB.out.size))
              have hAT := any_take S' tk j hcj
              have HAT := Lib.hid hAT
              clear hAT
              have j1 : (0 : Int) ≤ (j : Int) := by omega
              have j2 : (j : Int) < (S'.length : Int) := by omega
              have k1 : (0 : Int) ≤ (kk : Int) := by omega
              have k2 : (kk : Int) < (len : Int) := by omega
              generalize S'[j] = sj at *
              generalize (S'.take j).contains tk = old at *
              have e1 := ext_cell c1 (cell_lt c1)
              have e0 := ext_cell t0 (cell_lt t0)
              clear c1 t0
              as_aux_lemma =>
                go_upto_region 23 with fail
                cases old with
                | true =>
                  refine wp_region_ext wr.heap.size (by kernel_rfl) (by kernel_rfl) ?_
                  repeat (go_big_quiet_step (fail))
                  refine wpQuiet_nil ?_
                  rintro _ ⟨X, rfl⟩
                  have HX := Lib.hid (below_then HBq.out X.below)
                  generalize X.val = wx at *
                  go_wp2_with fail
                  go_roundw
                  case rel => exact ⟨j + 1, by omega, by go_num, by rw [HAT.out]; rfl, HX.out⟩
                  case measure => simp [intOf]; omega
                | false =>
                  by_cases hst : sj = tk
                  · subst hst
                    refine wp_region_ext wr.heap.size (by kernel_rfl) (by kernel_rfl) ?_
                    repeat (go_big_quiet_step (fail))
                    refine wpQuiet_nil ?_
                    rintro _ ⟨X, rfl⟩
                    have HX := Lib.hid (below_then HBq.out X.below)
                    generalize X.val = wx at *
                    go_wp2_with fail
                    go_roundw
                    case rel => exact ⟨j + 1, by omega, by go_num, by rw [HAT.out]; simp, HX.out⟩
                    case measure => simp [intOf]; omega
                  · have hne : ((sj : Int) == (tk : Int)) = false := by simp; omega
                    have hne2 : Hid ((sj == tk) = false) := by show _ = _; simpa using hst
                    clear hst
                    refine wp_region_ext wr.heap.size (by kernel_rfl) (by kernel_rfl) ?_
                    repeat (go_big_quiet_step (fail))
                    refine wpQuiet_nil ?_
                    rintro _ ⟨X, rfl⟩
                    have HX := Lib.hid (below_then HBq.out X.below)
                    generalize X.val = wx at *
                    go_wp2_with fail
                    go_roundw
                    case rel => exact ⟨j + 1, by omega, by go_num, by rw [HAT.out]; rw [hne2.out]; rfl, HX.out⟩
                    case measure => simp [intOf]; omega
            · obtain rfl : j = S'.length := by omega
              have HBw := Lib.hid (HB.out.trans (HBq.out.mono HB.out.size))
              have HKq := Lib.hid (HK.out.below HBq.out)
              have HAq : Hid (wr.heap[bp]? = some (.cells #[.int .u8 D, .int .u64 tx, .string S] 29 (0, 0))) := (HBq.out.block _ (blk_lt HA.out)).trans HA.out
              have c1 := HCE.out wr HBw.out
              have k1 : (0 : Int) ≤ (kk : Int) := by omega
              have k2 : (kk : Int) < (len : Int) := by omega
              rw [List.take_of_length_le (Nat.le_refl _)]
              clear HBq HR HK HA HB HOW
              by_cases hmem : tk ∈ S'
              · rw [show S'.contains tk = true from List.contains_iff_mem.2 hmem]
                as_aux_lemma =>
                  have HS2 := Lib.hid (HS.out.old hmem)
                  go_wp2_with fail
                  go_roundw
                  case rel => exact ⟨kk + 1, S', by omega, by go_num, rfl, HR2.out, by rw [HTK.out]; exact HS2.out, by omega, HKq.out, HAq.out, HBw.out⟩
                  case measure => simp [intOf]; omega
              · rw [show S'.contains tk = false from by simpa using hmem]
                have HS2 := Lib.hid (HS.out.new hmem)
                have HHB := Lib.hid (heldBy_snoc T2 S' tk)
                have hle2 := Lib.hid (heldBy_le (T := T2) HS2.out.1)
                have HUS := Lib.hid (u64s_snoc S' tk)
                clear hmem
                as_aux_lemma =>
                  go_wp2_with (at_builtin; refine wpList_append_own _ rfl _ _ 35 rfl (bp + 1) 27 i0 (.int .u64 0) 1 8 Try.underlying35 hi0 hz0 hz1 hz2 rfl (by decide) _ _ _ (by rfl) (HR2.out.alloc _) ⟨wr.heap.size, 0, none⟩ 1 1 [.int .u64 (tk : Nat)] (by rfl) rfl (cell_one_new _ _ _) (by simp [Value.oneCell']) (by unfold maxLen; omega) (by omega) (by have := blk_lt HAq.out; simp; omega) ?_; intro v5 w5 hown5 hgrow5 _; refine Aside.out ?_)
                  have HKa := Lib.hid (HKq.out.below ((Below.refl wr.heap.size wr).alloc (Nat.le_refl _) (.cells #[.int .u64 (tk : Nat)] 27)))
                  have HR3 := Lib.hid (HR2.out.alloc (.cells #[.int .u64 (tk : Nat)] 27))
                  have HAa : Hid ((wr.alloc (.cells #[.int .u64 (tk : Nat)] 27)).heap[bp]? = some (.cells #[.int .u8 D, .int .u64 tx, .string S] 29 (0, 0))) := heap_keep HAq.out
                  have HK5 := Lib.hid (HKa.out.kept hgrow5 (row_ne_low HR3.out (by omega)) (row_ne_low HR3.out (by omega)))
                  have HA5 : Hid (w5.heap[bp]? = some (.cells #[.int .u8 D, .int .u64 tx, .string S] 29 (0, 0))) := (hgrow5.block _ (blk_lt HAa.out) (row_ne_low HR3.out (by omega))).trans HAa.out
                  have HB5 := Lib.hid (below_own (HBw.out.alloc HBw.out.size (.cells #[.int .u64 (tk : Nat)] 27)) HR3.out (by omega) hgrow5)
                  rw [HUS.out] at hown5
                  have HO5 := Lib.hid hown5
                  have c1 := HCE.out w5 HB5.out
                  have hh2 := lkHeld w5 tk HK5.out
                  have HHd := Lib.hid hh2
                  clear hown5 hgrow5 HKa HAa HKq HAq HBw hh2
                  unfold Aside
                  go_wp2_with fail
                  refine HHd.out.mono ?_
                  rintro e w6 ⟨vh, rfl, hOh, hB6⟩
                  obtain ⟨hs, hhs⟩ : ∃ hs, hs = held T2 tk := ⟨_, rfl⟩
                  have HHS := Lib.hid hhs
                  rw [← hhs] at hOh
                  have HOh := Lib.hid hOh
                  have HB6 := Lib.hid hB6
                  obtain ⟨bh, cph, rfl, hch, hcm, hbh⟩ := own_form HOh.out
                  have HBh := Lib.hid hbh
                  unfold maxLen at hcm
                  have hsm2 : heldBy T2 S' + hs.length ≤ 1024 := by have := hle2.out; rw [HHB.out, ← hhs] at this; omega
                  have HSUM : Hid (heldBy T2 (S' ++ [tk]) = heldBy T2 S' + hs.length) := by show _ = _; rw [HHB.out, ← hhs]
                  have HK6 := Lib.hid (HK5.out.below hB6)
                  have HA6 : Hid (w6.heap[bp]? = some (.cells #[.int .u8 D, .int .u64 tx, .string S] 29 (0, 0))) := (hB6.block _ (blk_lt HA5.out)).trans HA5.out
                  have HO6 := Lib.hid (own_below HO5.out hB6)
                  have HB66 := Lib.hid (below_then HB5.out hB6)
                  have hHel : ∀ (j : Nat) (hj : j < hs.length), who T2 hs[j] = some tk ∧ hs[j].length ≤ 48 := by
                    subst hhs
                    exact fun j hj => ⟨held_get HRI.out hj, held_fine HK6.out (List.getElem_mem hj)⟩
                  have hHlt : ∀ (j : Nat) (hj : j + 1 < hs.length), hs[j]'(by omega) < hs[j + 1] := by
                    subst hhs
                    exact fun j hj => held_lt HRI.out hj
                  have HHel := Lib.hid hHel
                  have HHlt := Lib.hid hHlt
                  clear hOh hB6 hbh hHel hHlt HK5 HA5 HO5 HB5 HHd c1 HR2 HR3 hhs
                  go_wp2_with fail
                  obtain ⟨w7, hw7⟩ : ∃ W : World, W = w6 := ⟨_, rfl⟩
                  go_loopw [16] (fun s16 wq => ∃ (j : Nat), j ≤ hs.length ∧ s16 = .int .i64 j ∧ Below w7.heap.size w7 wq) (fun j _ => hs.length - (intOf j).toNat)
                  case atStart => exact ⟨0, Nat.zero_le _, rfl, by rw [hw7]; exact Below.refl _ _⟩
                  case round =>
                    obtain ⟨j, hj, rfl, hBq⟩ := hrel
                    have HBq := Lib.hid hBq
                    rw [← hw7] at HOh HK6 HA6 HO6 HB66
                    clear hBq hw7
                    have HKr := Lib.hid (HK6.out.below HBq.out)
                    have HBr := Lib.hid (HB66.out.trans (HBq.out.mono HB66.out.size))
                    by_cases hcj : j < hs.length
                    · obtain ⟨gv, rfl, hgv⟩ := HBh.out (by omega)
                      have HOr := Lib.hid (own_below HOh.out HBq.out)
                      have c1 := HCE.out wr HBr.out
                      have t0 := own_cell HOr.out j (.string ⟨(hs[j]).toArray⟩) (by unfold strs; rw [List.getElem?_map, List.getElem?_eq_getElem hcj]; rfl)
                      have hwh := HHel.out j hcj
                      have WH0 := fun W (hW : LkAt W g m T2) => lkWhoB W ⟨(hs[j]).toArray⟩ (by simp [ByteArray.size]; unfold maxLen; omega) hW
                      have ewh : (who T2 (⟨(hs[j]).toArray⟩ : ByteArray).data.toList).getD 0 = tk := by show (who T2 hs[j]).getD 0 = tk; rw [hwh.1]; rfl
                      simp only [ewh] at WH0
                      have WH := Lib.hid WH0
                      have e1 := ext_cell c1 (cell_lt c1)
                      have e0 := ext_cell t0 (cell_lt t0)
                      have bne : ((tk : Int) != (tk : Int)) = false := by simp
                      clear c1 WH0 ewh hwh
                      as_aux_lemma =>
                        rcases Nat.eq_zero_or_pos j with rfl | hjp
                        · generalize (hs[0]'hcj) = x0 at *
                          clear t0
                          go_upto_region 31 with fail
                          refine wp_region_ext wr.heap.size (by kernel_rfl) (by kernel_rfl) ?_
                          repeat (go_big_quiet_step ((go_at_call 17; exact ext_call _ (Nat.le_refl _) (WH.out _ (HKr.out.below (Ext.below _))))))
                          refine wpQuiet_nil ?_
                          rintro _ ⟨X, rfl⟩
                          have HX := Lib.hid (below_then HBq.out X.below)
                          generalize X.val = wx at *
                          go_wp2_with fail
                          go_roundw
                          case rel => exact ⟨0 + 1, by omega, by go_num, HX.out⟩
                          case measure => simp [intOf]; omega
                        · obtain ⟨j, rfl⟩ : ∃ j', j = j' + 1 := ⟨j - 1, by omega⟩
                          have t1 := own_cell HOr.out j (.string ⟨(hs[j]'(by omega)).toArray⟩) (by unfold strs; rw [List.getElem?_map, List.getElem?_eq_getElem (by omega)]; rfl)
                          have e2 := ext_cell t1 (cell_lt t1)
                          have hlt3 := HHlt.out j hcj
                          have hbl : Op.bytesLess (hs[j + 1]'hcj) (hs[j]'(by omega)) = false := by rw [bytesLess_eq2]; simp only [decide_eq_false_iff_not]; exact fun h => lt_irr _ (lt_tr h hlt3)
                          have hbl2 : ((hs[j + 1]'hcj) == (hs[j]'(by omega))) = false := by rw [beq_eq_false_iff_ne]; intro e; rw [e] at hlt3; exact lt_irr _ hlt3
                          clear t0 t1 hlt3
                          have jd : decide ((0 : Int) < ((j + 1 : Nat) : Int)) = true := by rw [decide_eq_true_eq]; omega
                          have jd2 : decide ((0 : Int) < (j : Int) + 1) = true := by rw [decide_eq_true_eq]; omega
                          generalize (hs[j + 1]'hcj) = x1 at *
                          generalize (hs[j]'(by omega)) = x0 at *
                          go_upto_region 31 with fail
                          refine wp_region_ext wr.heap.size (by kernel_rfl) (by kernel_rfl) ?_
                          repeat (go_big_quiet_step ((go_at_call 17; exact ext_call _ (Nat.le_refl _) (WH.out _ (HKr.out.below (Ext.below _))))))
                          refine wpQuiet_nil ?_
                          rintro _ ⟨X, rfl⟩
                          have HX := Lib.hid (below_then HBq.out X.below)
                          generalize X.val = wx at *
                          go_wp2_with fail
                          go_roundw
                          case rel => exact ⟨j + 1 + 1, by omega, by go_num, HX.out⟩
                          case measure => simp [intOf]; omega
                    · obtain rfl : j = hs.length := by omega
                      have HOf := Lib.hid (own_below HO6.out HBq.out)
                      have HAf : Hid (wr.heap[bp]? = some (.cells #[.int .u8 D, .int .u64 tx, .string S] 29 (0, 0))) := (HBq.out.block _ (blk_lt HA6.out)).trans HA6.out
                      go_wp2_with fail
                      go_roundw
                      case rel => exact ⟨kk + 1, S' ++ [tk], by omega, by go_num, by rw [HSUM.out]; go_num, by rw [List.length_append]; exact HOf.out, by rw [HTK.out]; exact HS2.out, by rw [List.length_append]; simp; omega, HKr.out, HAf.out, HBr.out⟩
                      case measure => simp [intOf]; omega
        · obtain rfl : kk = i + 1 := by omega
          as_aux_lemma =>
            have hall : Hid (heldBy T2 S' = T2.length) := heldBy_all HS.out.1 (fun p hp => (HS.out.2 _).2 (HO3.out p hp).2)
            rw [hall.out]
            have p0 : wr.cell? ⟨bp, 0, none⟩ = some (.int .u8 D) := by rw [blk_cell HA.out 0]; rfl
            have p1 : wr.cell? ⟨bp, 1, none⟩ = some (.int .u64 tx) := by rw [blk_cell HA.out 1]; rfl
            obtain ⟨r, hr⟩ : ∃ r, r = D % 3 := ⟨_, rfl⟩
            have m3 : (D : Int) % 3 = (r : Nat) := by omega
            have m3' : ((D : Int)).tmod 3 = (r : Nat) := by rw [Int.tmod_eq_emod_of_nonneg (by omega)]; exact m3
            have m4 : IntKind.u8.wrap (r : Int) = (r : Int) := IntWalk.u8_in _ ⟨by omega, by omega⟩
            have Hr := Lib.hid hr
            clear hr HR
            go_wp2_with fail
            refine (lkLen _ HK.out).mono ?_
            rintro e w8 ⟨rfl, rfl⟩
            by_cases h2 : r = 2
            · subst h2
              go_wp2_with fail
              refine (lkHeld _ tx HK.out).mono ?_
              rintro e w9 ⟨vh, rfl, hOh, hB9⟩
              obtain ⟨bh, cph, rfl, hch, hcm, _⟩ := own_form hOh
              have HK9 := Lib.hid (HK.out.below hB9)
              have HA9 : Hid (w9.heap[bp]? = some (.cells #[.int .u8 D, .int .u64 tx, .string S] 29 (0, 0))) := (hB9.block _ (blk_lt HA.out)).trans HA.out
              have HB9 := Lib.hid (below_then HB.out hB9)
              have p9 : w9.cell? ⟨bp, 1, none⟩ = some (.int .u64 tx) := by rw [blk_cell HA9.out 1]; rfl
              clear hOh hB9 p0 p1
              go_wp2_with fail
              refine (lkDrop _ tx HK9.out).mono ?_
              rintro e w10 ⟨rfl, hK10, hk10⟩
              have HK10 := Lib.hid hK10
              have hA10 : w10.heap[bp]? = some (.cells #[.int .u8 D, .int .u64 tx, .string S] 29 (0, 0)) := hk10.heap HA9.out (by omega)
              have HB10 := Lib.hid (show Below w.heap.size w w10 from hk10.below HB9.out (fun k hk e => by omega))
              have p10 : w10.cell? ⟨bp, 1, none⟩ = some (.int .u64 tx) := by rw [blk_cell hA10 1]; rfl
              have HO10 := Lib.hid (drop_own HO3.out tx)
              have hh11 := lkHeld w10 tx hK10
              rw [held_drop] at hh11
              have HH11 := Lib.hid hh11
              clear hK10 hk10 hA10 p9 hh11
              generalize dropL T2 tx = T3 at *
              go_wp2_with fail
              refine HH11.out.mono ?_
              rintro e w11 ⟨vh, rfl, hOh, hB11⟩
              obtain ⟨bh2, cph2, rfl, hch2, hcm2, _⟩ := own_form hOh
              have HK11 := Lib.hid (HK10.out.below hB11)
              have HB11 := Lib.hid (below_then HB10.out hB11)
              clear hOh hB11 p10
              go_wp2_with fail
              go_roundw
              case rel => exact ⟨i + 1, T3, by omega, by go_num, HK11.out, HO10.out, HB11.out⟩
              case measure => simp [intOf]; omega
            · go_wp2_with fail
              go_roundw
              case rel => exact ⟨i + 1, T2, by omega, by go_num, HK.out, HO3.out, HB.out⟩
              case measure => simp [intOf]; omega

end Go.Proofs.Ytoeaakadpillnaa
