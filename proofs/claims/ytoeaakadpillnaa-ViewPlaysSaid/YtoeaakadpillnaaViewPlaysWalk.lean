/- chapter 24: ViewPlays. -/
import Derived.Test.YtoeaakadpillnaaRows
import Derived.Test.YtoeaakadpillnaaViewPlaysPlain
import Derived.Test.YtoeaakadpillnaaViewMapOpen
import Derived.Test.YtoeaakadpillnaaViewMapGet
import Derived.Test.YtoeaakadpillnaaViewMapNew
import Derived.Test.YtoeaakadpillnaaViewMap
import Derived.Test.YtoeaakadpillnaaViewStaysPlain
import Derived.Test.YtoeaakadpillnaaViewNil
import Derived.Test.YtoeaakadpillnaaNumsIn
import Derived.Test.YtoeaakadpillnaaViewCopied
import Derived.Test.YtoeaakadpillnaaViewWorks
import Derived.Test.YtoeaakadpillnaaViewRef
import Derived.Test.YtoeaakadpillnaaViewOf
import Derived.Test.YtoeaakadpillnaaViewSame
import Derived.Test.YtoeaakadpillnaaViewSees
import Derived.Test.YtoeaakadpillnaaViewNums
import Derived.Test.YtoeaakadpillnaaLockRefTake
import Derived.Test.YtoeaakadpillnaaLockPlain
import Derived.Test.YtoeaakadpillnaaSortUTop
import Derived.Test.YtoeaakadpillnaaLockRef
import Derived.Test.YtoeaakadpillnaaKept
import Derived.Test.YtoeaakadpillnaaQuietTail
import Derived.Test.YtoeaakadpillnaaAppAny
import Derived.Deep.LoopGhost
import Derived.Deep.CutBlock
import Derived.Lib.SliceRun
import Derived.Laws.ResultCell
import Derived.Maps.OwnSet
import Derived.Maps.RangeWalk
import Derived.WalkKit
import Derived.WalkLawsBesides
import Derived.WalkSpells
import Derived.LoopTactic
import Derived.WalkMore
import Derived.LoopN
import Derived.Laws.BitsAllLaws
import Derived.Laws.IdiomStrings
import Derived.BigQuiet
import Derived.Deep.QuietTactic
import Derived.Deep.DeepCutAuto
import Derived.Deep.RegionHeld3
import Derived.Deep.DrawnRows
import Derived.Lib.Hide
import Derived.Outline
import Derived.Deep.DeepMust
import Derived.Handy
namespace Go.Proofs.Ytoeaakadpillnaa
open Go.RowKit
set_option linter.unusedVariables false
set_option linter.unusedSimpArgs false

open Go.Maps
/-- All that are open up to k see it. -/
def AllUp (T : VT) (tx k : Nat) (all : Bool) : Prop := all = true ↔ ∀ j : Nat, 1 ≤ j → j < k → ∀ e, T (j : Int) = some e → seesV e.own e.next e.xs tx = true
theorem AllUp.start (T : VT) (tx : Nat) : AllUp T tx 1 true := ⟨fun _ j h1 h2 => by omega, fun _ => rfl⟩
theorem AllUp.skip {T : VT} {tx k : Nat} {all : Bool} (h : AllUp T tx k all) (he : T (k : Int) = none) : AllUp T tx (k + 1) all := by
  refine Iff.trans h ⟨fun h j h1 h2 e h3 => ?_, fun h j h1 h2 => h j h1 (by omega)⟩
  by_cases hj : j = k
  · subst hj; rw [he] at h3; cases h3
  · exact h j h1 (by omega) e h3
theorem AllUp.more {T : VT} {tx k : Nat} {all : Bool} {e : VE} (h : AllUp T tx k all) (hk : 1 ≤ k) (he : T (k : Int) = some e) : AllUp T tx (k + 1) (all && seesV e.own e.next e.xs tx) := by
  unfold AllUp
  rw [Bool.and_eq_true, show (all = true) = _ from propext h]
  constructor
  · rintro ⟨h1, h2⟩ j hj1 hj2 e2 h3
    by_cases hj : j = k
    · subst hj; rw [he] at h3; injection h3 with h3; subst h3; exact h2
    · exact h1 j hj1 (by omega) e2 h3
  · intro h1
    exact ⟨fun j hj1 hj2 => h1 j hj1 (by omega), h1 k hk (by omega) e he⟩
theorem AllUp.same {T : VT} {tx : Nat} {all b : Bool} (h : AllUp T tx 65 all) (hd : ∀ k, (T k).isSome = true → 1 ≤ k ∧ k ≤ 64) (hb : b = true ↔ ∀ k e, T k = some e → seesV e.own e.next e.xs tx = true) : b = all := by
  have : b = true ↔ all = true := by
    rw [hb, show (all = true) = _ from propext h]
    constructor
    · intro h j _ _ e he; exact h _ e he
    · intro h k e he
      have h2 := hd k (by rw [he]; rfl)
      obtain ⟨j, rfl⟩ : ∃ j : Nat, k = (j : Int) := ⟨k.toNat, by omega⟩
      exact h j (by omega) (by omega) e he
  cases b <;> cases all <;> simp_all

theorem VwAt.rebase {w : World} {g m base base' n : Nat} (h : VwAt w g m base (fun _ => none) n) (hb : base ≤ base') : VwAt w g m base' (fun _ => none) n :=
  ⟨h.own, h.ex, fun k e he => (by cases he), fun k hk => (by cases hk), Nat.lt_of_lt_of_le h.hg hb, Nat.lt_of_lt_of_le h.hm hb, h.small⟩

set_option maxHeartbeats 16000000 in
set_option maxRecDepth 100000 in
theorem viewPlays_any (A : Option Addr) (n cap tx : Nat) (id : Int) (L : List VActD) (w : World) (hn : L.length = n) (hcap : n ≤ cap) (hcm : cap ≤ maxLen) (hid1 : -9223372036854775808 ≤ id) (hid2 : id ≤ 9223372036854775807) (hL : VActsAt w A L) :
    Calls Try.prog 10 #[.slice A n cap, .int .i64 id, .int .u64 tx] w fun e w' => e = .returned (.bool true) ∧ Below w.heap.size w w' := by
  have WK := Lib.hid vworks
  have HLA := Lib.hid hL
  have HLN := Lib.hid hn
  have NEW := Lib.hid (vwNew w)
  have HID := Lib.hid hid1
  have HID2 := Lib.hid hid2
  unfold maxLen at hcm
  clear hL hn hid1 hid2
  go_enter Try.func10, Try.ntmps10
  by_cases h0 : 100 < n
  · have hx : (100 : Int) < (n : Int) := by omega
    clear h0
    go_wp2_with fail
    refine (WK.out w).mono ?_
    rintro e w' ⟨rfl, hb⟩
    go_wp2_with fail
    go_ret
    exact ⟨rfl, hb⟩
  have hx : ¬ (100 : Int) < (n : Int) := by omega
  go_wp2_with fail
  refine NEW.out.mono ?_
  rintro e w1 ⟨g, m, rfl, hv1, hg1, hm1, hs1, hb1⟩
  have hgm := hv1.hg
  have hmm := hv1.hm
  obtain ⟨W2, hW2⟩ : ∃ W, W = w1.alloc (.cells Try.zeroCells92 92) := ⟨_, rfl⟩
  obtain ⟨W3, hW3⟩ : ∃ W, W = W2.alloc (.cells Try.zeroCells93 93) := ⟨_, rfl⟩
  have s2 : W2.heap.size = w1.heap.size + 1 := by rw [hW2]; simp
  have s3 : W3.heap.size = w1.heap.size + 2 := by rw [hW3]; simp [s2]
  have HT0 : Hid (VTab w W3 w1.heap.size (w1.heap.size + 1) (fun _ => none)) := by rw [hW3, hW2]; exact VTab.start w w1
  have hb3 : Below w1.heap.size w1 W3 := by
    rw [hW3, hW2]
    exact ((Below.refl _ _).alloc (Nat.le_refl _) _).alloc (by simp) _
  have HV3 := Lib.hid ((hv1.below hb3).rebase (base' := w.heap.size + 4) (by omega))
  have HB3 := Lib.hid (below_trans2 hb1 hb3)
  obtain ⟨pb, hpb⟩ : ∃ pb, pb = w1.heap.size := ⟨_, rfl⟩
  obtain ⟨pv, hpv⟩ : ∃ pv, pv = w1.heap.size + 1 := ⟨_, rfl⟩
  rw [← hpv, ← hpb] at HT0
  have hpp : pb = w.heap.size + 2 := by omega
  have hpq : pv = w.heap.size + 3 := by omega
  have HPQ := Lib.hid (show w1.heap.size + 1 = pv by omega)
  have HPB := Lib.hid (show w1.heap.size = pb by omega)
  have HPP := Lib.hid hpp
  have HPV := Lib.hid hpq
  have hW3s : W3.heap.size = w.heap.size + 4 := by omega
  have HW3 := Lib.hid hW3s
  clear hpb hpv s2 s3 hs1 hpp hpq hW3s
  go_upto_region 6 with fail
  rw [← hW2, ← hW3, HPQ.out, HPB.out]
  have hpp := HPP.out.symm
  have hpq := HPV.out.symm
  have hW3s := HW3.out
  clear hW3 hW2 hv1 hb1 hb3 hx HPB HPQ HPP HPV HW3
  go_wp2_with fail
  go_loopw [10, 11] (fun s10 s11 wr => ∃ (i nn : Nat) (T : VT), s10 = .int .i64 nn ∧ s11 = .int .i64 i ∧ i ≤ n ∧ nn ≤ i ∧ VwAt wr g m (w.heap.size + 4) T nn ∧ Hid (VTab w wr pb pv T) ∧ Below w.heap.size w wr ∧ w.heap.size + 4 ≤ wr.heap.size) (fun _ v _ => n - (intOf v).toNat)
  case atStart => exact ⟨0, 0, _, rfl, rfl, Nat.zero_le _, Nat.zero_le _, HV3.out, HT0, HB3.out, by omega⟩
  case round =>
    obtain ⟨i, nn, T, rfl, rfl, hi, hnn, hV, HT, hB, hsz⟩ := hrel
    have HV := Lib.hid hV
    have HB := Lib.hid hB
    clear hV hB HT0 HV3 HB3 hW3s
    by_cases hc : i < n
    · have hci : (i : Int) < (n : Int) := by omega
      have q0 : (0 : Int) ≤ (i : Int) := by omega
      have hix : i < L.length := by rw [HLN.out]; exact hc
      obtain ⟨b0, o0, rfl, hb0, hcells⟩ := HLA.out.1 (by omega)
      have hNI := HLA.out.2 L[i] (List.getElem_mem hix)
      have CE := Lib.hid (show ∀ W, Below w.heap.size w W → W.cell? ⟨b0, o0 + i * 5, none⟩ = some (.bool L[i].shut) ∧ W.cell? ⟨b0, o0 + i * 5 + 1, none⟩ = some (.int .i64 L[i].id) ∧ W.cell? ⟨b0, o0 + i * 5 + 2, none⟩ = some (.int .u64 (L[i].e.own : Nat)) ∧ W.cell? ⟨b0, o0 + i * 5 + 3, none⟩ = some (.int .u64 (L[i].e.next : Nat)) ∧ W.cell? ⟨b0, o0 + i * 5 + 4, none⟩ = some (.slice L[i].e.b L[i].e.xs.length L[i].e.c) from fun W hW => by
        obtain ⟨a1, a2, a3, a4, a5⟩ := hcells i hix
        exact ⟨keep_cell hW a1, keep_cell hW a2, keep_cell hW a3, keep_cell hW a4, keep_cell hW a5⟩)
      have HNI := Lib.hid hNI.1
      have HK1 := Lib.hid hNI.2.1
      have HK2 := Lib.hid hNI.2.2
      clear hcells hNI
      generalize L[i] = a0 at *
      obtain ⟨shut, k, e0⟩ := a0
      obtain ⟨own, next, b, c, xs⟩ := e0
      simp only [VE.sv] at CE HNI HK1 HK2
      obtain ⟨ln, hln⟩ : ∃ ln, ln = xs.length := ⟨_, rfl⟩
      have HLX := Lib.hid hln
      simp only [← hln] at CE HNI
      clear hln
      obtain ⟨x0, x1, x2, x3, x4⟩ := CE.out wr HB.out
      by_cases h30 : 30 < ln
      · have h30i : (30 : Int) < (ln : Int) := by omega
        clear x0 x1 x2 x3
        go_wp2_with fail
        refine (WK.out _).mono ?_
        rintro e w3 ⟨rfl, hb⟩
        have HBF := Lib.hid (OthersKept.below HB.out (OthersKept.of_below (p := fun _ => False) hb) (fun _ _ h => h))
        clear hb
        go_wp2_with fail
        go_ret
        exact ⟨rfl, HBF.out⟩
      · have h30i : ¬ (30 : Int) < (ln : Int) := by omega
        have HNN := Lib.hid hnn
        go_upto_if 48 with fail
        go_cut [10] (fun s10 w' => ∃ (nn2 : Nat) (T2 : VT), s10 = .int .i64 nn2 ∧ nn2 ≤ i + 1 ∧ VwAt w' g m (w.heap.size + 4) T2 nn2 ∧ Hid (VTab w w' pb pv T2) ∧ Below w.heap.size w w' ∧ w.heap.size + 4 ≤ w'.heap.size)
        case first =>
          cases shut with
          | true =>
            as_aux_lemma =>
              cases hTk : T k with
              | none =>
                as_aux_lemma =>
                  by_cases hk1 : 1 ≤ k
                  · by_cases hk64 : k ≤ 64
                    · obtain ⟨kn, rfl⟩ : ∃ kn : Nat, k = (kn : Int) := ⟨k.toNat, by omega⟩
                      obtain ⟨z0, _⟩ := HT.out.opn kn (by omega)
                      rw [hTk] at z0
                      have z1 : wr.cell? ⟨pb, kn, none⟩ = some (.bool false) := z0
                      have kq : (0 : Int) ≤ (kn : Int) := by omega
                      have kq2 : (kn : Int) < 65 := by omega
                      clear z0
                      skip
                      have CL := Lib.hid (vwCloseN wr HV.out (kn : Int) HK1.out HK2.out hTk)
                      clear hTk x0 x2 x3 x4
                      go_wp2_with fail
                      refine CL.out.mono ?_
                      rintro e w3 ⟨rfl, hb3⟩
                      have HV3 := Lib.hid (HV.out.below hb3)
                      have HT3 := Lib.hid (HT.out.below hb3)
                      have HB3 := Lib.hid (OthersKept.below HB.out (OthersKept.of_below (p := fun _ => False) hb3) (fun _ _ h => h))
                      have hs3 := hb3.size
                      clear hb3
                      go_wp2_with fail
                      go_meet
                      exact ⟨nn, T, rfl, by omega, HV3.out, HT3.out, HB3.out, by omega⟩
                    · skip
                      skip
                      have CL := Lib.hid (vwCloseN wr HV.out k HK1.out HK2.out hTk)
                      clear hTk x0 x2 x3 x4
                      go_wp2_with fail
                      refine CL.out.mono ?_
                      rintro e w3 ⟨rfl, hb3⟩
                      have HV3 := Lib.hid (HV.out.below hb3)
                      have HT3 := Lib.hid (HT.out.below hb3)
                      have HB3 := Lib.hid (OthersKept.below HB.out (OthersKept.of_below (p := fun _ => False) hb3) (fun _ _ h => h))
                      have hs3 := hb3.size
                      clear hb3
                      go_wp2_with fail
                      go_meet
                      exact ⟨nn, T, rfl, by omega, HV3.out, HT3.out, HB3.out, by omega⟩
                  · skip
                    skip
                    have CL := Lib.hid (vwCloseN wr HV.out k HK1.out HK2.out hTk)
                    clear hTk x0 x2 x3 x4
                    go_wp2_with fail
                    refine CL.out.mono ?_
                    rintro e w3 ⟨rfl, hb3⟩
                    have HV3 := Lib.hid (HV.out.below hb3)
                    have HT3 := Lib.hid (HT.out.below hb3)
                    have HB3 := Lib.hid (OthersKept.below HB.out (OthersKept.of_below (p := fun _ => False) hb3) (fun _ _ h => h))
                    have hs3 := hb3.size
                    clear hb3
                    go_wp2_with fail
                    go_meet
                    exact ⟨nn, T, rfl, by omega, HV3.out, HT3.out, HB3.out, by omega⟩
              | some e0 =>
                obtain ⟨hk1, hk64⟩ := HV.out.dom k (by rw [hTk]; rfl)
                obtain ⟨kn, rfl⟩ : ∃ kn : Nat, k = (kn : Int) := ⟨k.toNat, by omega⟩
                obtain ⟨z0, z2⟩ := HT.out.opn kn (by omega)
                rw [hTk] at z0
                have z1 : wr.cell? ⟨pb, kn, none⟩ = some (.bool true) := z0
                have kq : (0 : Int) ≤ (kn : Int) := by omega
                have kq2 : (kn : Int) < 65 := by omega
                obtain ⟨n', rfl⟩ := HV.out.pos (k := (kn : Int)) (by rw [hTk]; rfl)
                have CL := Lib.hid (vwClose wr HV.out (kn : Int) e0 hTk)
                clear z0 hTk x0 x2 x3 x4
                go_wp2_with fail
                refine CL.out.mono ?_
                rintro e w3 ⟨rfl, hv3, hk3⟩
                have HV3 := Lib.hid hv3
                have HT3 := Lib.hid (HT.out.kept hk3 (by omega) (by omega))
                have HB3 := Lib.hid (OthersKept.below HB.out hk3 (fun _ _ h => by omega))
                have hs3 := hk3.size
                obtain ⟨y1, y2⟩ := HT3.out.opn kn (by omega)
                have hset : OthersKept w3 (w3.setCell ⟨pb, kn, none⟩ (.bool false)) (fun x => x = pb) := OthersKept.of_grown (p := fun x => x = pb) (g := pb) (grown_set (grown_refl _ _)) rfl
                have HV4 := Lib.hid (HV3.out.kept hset (by omega) (by omega) (fun k' e' he' x hx h => by have := own_block (HV3.out.rows k' e' he').1 x hx; omega))
                have HT4 := Lib.hid (HT3.out.shut (by omega) kn (by omega))
                have HB4 := Lib.hid (OthersKept.below HB3.out hset (fun _ _ h => by omega))
                have hs4 := hset.size
                clear hv3 hk3 hset
                go_wp2_with fail
                go_meet
                exact ⟨n', _, rfl, by omega, HV4.out, HT4.out, HB4.out, by omega⟩
          | false =>
            as_aux_lemma =>
              have CO := Lib.hid (fun W hW => lcopied_any own next (.slice b ln c) xs W (by rw [← HLX.out]; omega) (HNI.out.below (w' := W) hW))
              go_wp2_with fail
              go_loop [15] (fun s15 => ∃ j : Nat, s15 = .int .i64 j ∧ 1 ≤ j ∧ j ≤ 65 ∧ Hid (∀ t : Nat, 1 ≤ t → t < j → T (t : Int) ≠ none)) (fun v => 66 - (intOf v).toNat)
              case atStart => exact ⟨1, rfl, Nat.le_refl _, by omega, fun t h1 h2 => by omega⟩
              case round =>
                obtain ⟨j, rfl, hj1, hj65, HJ⟩ := hrel
                by_cases hj : j ≤ 64
                · have hji : (j : Int) ≤ 64 := by omega
                  have jq : (0 : Int) ≤ (j : Int) := by omega
                  have jq2 : (j : Int) < 65 := by omega
                  obtain ⟨z0, z2⟩ := HT.out.opn j hj
                  cases hTj : T (j : Int) with
                  | some ej =>
                    rw [hTj] at z0
                    have z1 : wr.cell? ⟨pb, j, none⟩ = some (.bool true) := z0
                    have HJ2 : Hid (∀ t : Nat, 1 ≤ t → t < j + 1 → T (t : Int) ≠ none) := fun t h1 h2 => by
                      by_cases e : t = j
                      · subst e; rw [hTj]; simp
                      · exact HJ.out t h1 (by omega)
                    clear z0 hTj x1 x2 x3 x4
                    go_wp2_with fail
                    exact ⟨⟨j + 1, by go_num, by omega, by omega, HJ2⟩, by simp [intOf] <;> omega⟩
                  | none =>
                    rw [hTj] at z0
                    have z1 : wr.cell? ⟨pb, j, none⟩ = some (.bool false) := z0
                    clear z0
                    go_wp2_with fail
                    refine (CO.out _ HB.out).mono ?_
                    rintro e w3 ⟨v3, rfl, ho3, hb3⟩
                    obtain ⟨b3, c3, rfl, _, _, _⟩ := own_form ho3
                    have hN3 := (nums_own ho3).1
                    have HB3 := Lib.hid (OthersKept.below HB.out (OthersKept.of_below (p := fun _ => False) hb3) (fun _ _ h => h))
                    have hsz3 := hb3.size
                    have HV3 := Lib.hid (HV.out.below hb3)
                    have HT3 := Lib.hid (HT.out.below hb3)
                    have OP := Lib.hid (vwOpen w3 HV3.out (by omega) own next b3 c3 xs hN3 (by rw [← HLX.out]; omega) j (by omega) (by omega) hTj HJ.out (by omega))
                    clear ho3 hb3 hN3 z1 x1 x2 x3 x4 hTj
                    simp only [← HLX.out] at OP ⊢
                    go_wp2_with fail
                    refine OP.out.mono ?_
                    rintro e w4 ⟨rfl, b4, c4, hv4, hk4⟩
                    have HV4 := Lib.hid hv4
                    have HT4 := Lib.hid (HT3.out.kept hk4 (by omega) (by omega))
                    have HB4 := Lib.hid (OthersKept.below HB3.out hk4 (fun k hk h => by omega))
                    have hsz4 := hk4.size
                    clear hv4 hk4
                    have hne1 : ((j : Int) != (j : Int)) = false := by simp
                    obtain ⟨y1, y2⟩ := HT4.out.opn j hj
                    obtain ⟨ro, rn, rs, r1, r2, r3, r4, r5, r6⟩ := HT4.out.room j hj
                    obtain ⟨x0, x1, x2, x3, x4⟩ := CE.out w4 HB4.out
                    have nb1 : b0 ≠ pb := by omega
                    have nb2 : b0 ≠ pv := by omega
                    have nb3 : pb ≠ pv := by omega
                    have hset : OthersKept w4 ((((w4.setCell ⟨pb, j, none⟩ (.bool true)).setCell ⟨pv, j * 3, none⟩ (.int .u64 (own : Nat))).setCell ⟨pv, j * 3 + 1, none⟩ (.int .u64 (next : Nat))).setCell ⟨pv, j * 3 + 2, none⟩ (.slice b ln c)) (fun x => x = pb ∨ x = pv) :=
                      (OthersKept.of_grown (p := fun x => x = pb ∨ x = pv) (g := pb) (grown_set (grown_refl _ _)) (.inl rfl)).trans (OthersKept.of_grown (p := fun x => x = pb ∨ x = pv) (g := pv) (grown_set (grown_set (grown_set (grown_refl _ _)))) (.inr rfl)) (fun _ _ h => h)
                    have HT5 : Hid (VTab w ((((w4.setCell ⟨pb, j, none⟩ (.bool true)).setCell ⟨pv, j * 3, none⟩ (.int .u64 (own : Nat))).setCell ⟨pv, j * 3 + 1, none⟩ (.int .u64 (next : Nat))).setCell ⟨pv, j * 3 + 2, none⟩ (.slice b ln c)) pb pv (T.put (j : Int) ⟨own, next, b4, c4, xs⟩)) := by
                      rw [HLX.out]
                      exact VTab.opened (HT4.out) nb3 j hj own next b b4 c c4 xs (by rw [← HLX.out]; exact HNI.out)
                    have HV5 := Lib.hid (HV4.out.kept hset (by omega) (by omega) (fun k' e' he' x hx h => by have := own_block (HV4.out.rows k' e' he').1 x hx; omega))
                    have HB5 := Lib.hid (OthersKept.below HB4.out hset (fun _ _ h => by omega))
                    have hs5 := hset.size
                    clear x0 x1 hset
                    go_wp2_with fail
                    go_meet
                    exact ⟨nn + 1, _, rfl, by omega, HV5.out, HT5.out, HB5.out, by omega⟩
                · have hji : ¬ (j : Int) ≤ 64 := by omega
                  obtain rfl : j = 65 := by omega
                  go_wp2_with fail
                  refine (CO.out _ HB.out).mono ?_
                  rintro e w3 ⟨v3, rfl, ho3, hb3⟩
                  obtain ⟨b3, c3, rfl, _, _, _⟩ := own_form ho3
                  have HB3 := Lib.hid (OthersKept.below HB.out (OthersKept.of_below (p := fun _ => False) hb3) (fun _ _ h => h))
                  have hsz3 := hb3.size
                  have HV3 := Lib.hid (HV.out.below hb3)
                  have HT3 := Lib.hid (HT.out.below hb3)
                  have OP := Lib.hid (vwOpenFull w3 HV3.out own next b3 xs.length c3 (fun t h1 h2 => HJ.out t h1 (by omega)))
                  clear ho3 hb3 x1 x2 x3 x4
                  go_wp2_with fail
                  refine OP.out.mono ?_
                  rintro e w4 ⟨rfl, hb4⟩
                  have HV4 := Lib.hid (HV3.out.below hb4)
                  have HT4 := Lib.hid (HT3.out.below hb4)
                  have HB4 := Lib.hid (OthersKept.below HB3.out (OthersKept.of_below (p := fun _ => False) hb4) (fun _ _ h => h))
                  have hsz4 := hb4.size
                  clear hb4
                  go_wp2_with fail
                  go_meet
                  exact ⟨nn, T, rfl, by omega, HV4.out, HT4.out, HB4.out, by omega⟩
        case rest =>
          as_aux_lemma =>
            obtain ⟨nn2, T2, rfl, hnn2, hv2, HT2, hb2, hs2⟩ := hcut
            have HV2 := Lib.hid hv2
            have HB2 := Lib.hid hb2
            clear hv2 hb2 x0 x1 x2 x3 x4 HV HT HB
            go_wp2_with fail
            go_loopw [18, 19] (fun s18 s19 wr => ∃ (k : Nat) (all : Bool), s18 = .bool all ∧ s19 = .int .i64 k ∧ 1 ≤ k ∧ k ≤ 65 ∧ Below wc.heap.size wc wr ∧ Hid (AllUp T2 tx k all)) (fun _ v _ => 66 - (intOf v).toNat)
            case atStart => exact ⟨1, true, rfl, rfl, Nat.le_refl _, by omega, Below.refl _ _, AllUp.start T2 tx⟩
            case round =>
              obtain ⟨k, all, rfl, rfl, hk1, hk65, hb, HA⟩ := hrel
              have HVr := Lib.hid (HV2.out.below hb)
              have HTr := Lib.hid (HT2.out.below hb)
              have HBr := Lib.hid (OthersKept.below HB2.out (OthersKept.of_below (p := fun _ => False) hb) (fun _ _ h => h))
              have HBc := Lib.hid hb
              have hszr := hb.size
              clear hb
              by_cases hk : k ≤ 64
              · have hki : (k : Int) ≤ 64 := by omega
                have kq : (0 : Int) ≤ (k : Int) := by omega
                have kq2 : (k : Int) < 65 := by omega
                cases hTk : T2 (k : Int) with
                | none =>
                  as_aux_lemma =>
                    have GE := Lib.hid (vwGetN wr HVr.out (k : Int) (by omega) (by omega) hTk)
                    have HA2 := Lib.hid (HA.out.skip hTk)
                    have HTK := Lib.hid hTk
                    clear hTk
                    go_wp2_with fail
                    refine GE.out.mono ?_
                    rintro e w3 ⟨b3, c3, rfl, hb3⟩
                    have hb4 : Below w3.heap.size w3 (w3.alloc (.cells #[.int .u64 0, .int .u64 0, .slice b3 0 c3] 50)) := (Below.refl _ _).alloc (Nat.le_refl _) _
                    have HB4 := Lib.hid (below_trans2 hb3 hb4)
                    have HT4 := Lib.hid (HTr.out.below HB4.out)
                    have hs4 := HB4.out.size
                    clear hb3 hb4
                    go_upto_region 38 with fail
                    generalize w3.alloc (.cells #[.int .u64 0, .int .u64 0, .slice b3 0 c3] 50) = W4 at *
                    obtain ⟨z0, _⟩ := HT4.out.opn k hk
                    rw [HTK.out] at z0
                    have z1 : W4.cell? ⟨pb, k, none⟩ = some (.bool false) := z0
                    have e1 := ext_cell z1 (show pb < W4.heap.size by omega)
                    clear z0 z1
                    refine wp_region_ext W4.heap.size (by kernel_rfl) (by kernel_rfl) ?_
                    repeat (go_big_quiet_step (fail))
                    refine wpQuiet_nil ?_
                    rintro _ ⟨X, rfl⟩
                    have HX := Lib.hid (below_trans2 (below_trans2 HBc.out HB4.out) X.below)
                    generalize X.val = W8 at *
                    clear e1
                    cases all with
                    | true =>
                      go_wp2_with fail
                      go_roundw
                      case rel => exact ⟨k + 1, true, rfl, by go_num, by omega, by omega, HX.out, HA2.out⟩
                      case measure => simp [intOf] <;> omega
                    | false =>
                      go_wp2_with fail
                      go_roundw
                      case rel => exact ⟨k + 1, false, rfl, by go_num, by omega, by omega, HX.out, HA2.out⟩
                      case measure => simp [intOf] <;> omega
                | some ek =>
                  as_aux_lemma =>
                    have GE := Lib.hid (vwGet wr HVr.out (k : Int) ek hTk)
                    have HA2 := Lib.hid (HA.out.more hk1 hTk)
                    obtain ⟨vb, vc, v1, v2, v3, v4⟩ := HTr.out.view k hk ek hTk
                    have CV := Lib.hid (show ∀ W, Below wr.heap.size wr W → W.cell? ⟨pb, k, none⟩ = some (.bool true) ∧ W.cell? ⟨pv, k * 3, none⟩ = some (.int .u64 (ek.own : Nat)) ∧ W.cell? ⟨pv, k * 3 + 1, none⟩ = some (.int .u64 (ek.next : Nat)) ∧ W.cell? ⟨pv, k * 3 + 2, none⟩ = some (.slice vb ek.xs.length vc) from fun W hW => by
                      obtain ⟨z0, _⟩ := HTr.out.opn k hk
                      rw [hTk] at z0
                      exact ⟨keep_cell hW z0, keep_cell hW v1, keep_cell hW v2, keep_cell hW v3⟩)
                    have HNV := Lib.hid (show ∀ W, Below wr.heap.size wr W → NumsAt W (.slice vb ek.xs.length vc) ek.xs from fun W hW => v4.below (OthersKept.below HBr.out (OthersKept.of_below (p := fun _ => False) hW) (fun _ _ h => h)))
                    clear v1 v2 v3 v4 hTk
                    obtain ⟨own2, next2, bq, cq, ys⟩ := ek
                    simp only at GE HA2 CV HNV
                    obtain ⟨lk, hlk⟩ : ∃ lk, lk = ys.length := ⟨_, rfl⟩
                    have HLK := Lib.hid hlk
                    simp only [← hlk] at GE CV HNV
                    clear hlk
                    go_wp2_with fail
                    refine GE.out.mono ?_
                    rintro e w6 ⟨b6, c6, rfl, ho6, hb6⟩
                    obtain ⟨W7, hW7⟩ : ∃ W, W = w6.alloc (.cells #[.int .u64 own2, .int .u64 next2, .slice b6 lk c6] 50) := ⟨_, rfl⟩
                    have hB7 : Below w6.heap.size w6 W7 := by rw [hW7]; exact (Below.refl _ _).alloc (Nat.le_refl _) _
                    have K7 := Lib.hid (show W7.heap[w6.heap.size]? = some (.cells #[.int .u64 own2, .int .u64 next2, .slice b6 lk c6] 50 (0, 0)) by rw [hW7]; exact heap_alloc_new w6 _)
                    have hs7 : W7.heap.size = w6.heap.size + 1 := by rw [hW7]; simp
                    have HB7 := Lib.hid (below_trans2 hb6 hB7)
                    have HO7 := Lib.hid (own_below ho6 hB7)
                    have hs6 := hb6.size
                    have SM : Hid (∀ W : World, Below W7.heap.size W7 W → Calls Try.prog 32 #[viewV own2 next2 (.slice b6 lk c6), viewV own2 next2 (.slice vb lk vc)] W fun e w' => e = .returned (.bool true) ∧ Below W.heap.size W w') := fun W hW => by
                      have h := same_any own2 next2 own2 next2 (.slice b6 lk c6) (.slice vb lk vc) ys ys W ((nums_own HO7.out).1.below hW) (HNV.out W (below_trans2 HB7.out hW))
                      rwa [show sameV own2 next2 ys own2 next2 ys = true by unfold sameV; simp] at h
                    clear hB7 ho6 hb6
                    go_upto_region 38 with fail
                    rw [← hW7]
                    clear hW7
                    obtain ⟨y0, y1, y2, _, _, _⟩ := cells3 K7.out
                    obtain ⟨z1, x1, x2, x3⟩ := CV.out W7 HB7.out
                    have e0 := ext_cell z1 (show pb < W7.heap.size by omega)
                    have e1 := ext_cell y0 (show w6.heap.size < W7.heap.size by omega)
                    have e2 := ext_cell y1 (show w6.heap.size < W7.heap.size by omega)
                    have e3 := ext_cell y2 (show w6.heap.size < W7.heap.size by omega)
                    have e4 := ext_cell x1 (show pv < W7.heap.size by omega)
                    have e5 := ext_cell x2 (show pv < W7.heap.size by omega)
                    have e6 := ext_cell x3 (show pv < W7.heap.size by omega)
                    refine wp_region_ext W7.heap.size (by kernel_rfl) (by kernel_rfl) ?_
                    repeat (go_big_quiet_step (first | (go_at_call 32; exact ext_call _ (Nat.le_refl _) (SM.out _ (Ext.below _)))))
                    refine wpQuiet_nil ?_
                    rintro _ ⟨X, rfl⟩
                    have HX := Lib.hid (below_trans2 HB7.out X.below)
                    have HXC := Lib.hid (below_trans2 HBc.out HX.out)
                    generalize X.val = W8 at *
                    clear z1 x1 x2 x3 y0 y1 y2 e0 e1 e2 e3 e4 e5 e6
                    cases all with
                    | true =>
                      obtain ⟨z1, x1, x2, x3⟩ := CV.out W8 HX.out
                      have SE := Lib.hid (rsees_any own2 next2 tx (.slice vb lk vc) ys W8 (HNV.out W8 HX.out))
                      generalize seesV own2 next2 ys tx = sb at *
                      go_wp2_with fail
                      refine SE.out.mono ?_
                      rintro e w9 ⟨rfl, hb9⟩
                      have HX9 := Lib.hid (below_trans2 HXC.out hb9)
                      clear hb9
                      go_wp2_with fail
                      go_roundw
                      case rel => exact ⟨k + 1, sb, rfl, by go_num, by omega, by omega, HX9.out, HA2.out⟩
                      case measure => simp [intOf] <;> omega
                    | false =>
                      go_wp2_with fail
                      go_roundw
                      case rel => exact ⟨k + 1, false, rfl, by go_num, by omega, by omega, HXC.out, HA2.out⟩
                      case measure => simp [intOf] <;> omega
              · have hki : ¬ (k : Int) ≤ 64 := by omega
                obtain rfl : k = 65 := by omega
                cases hTi : T2 id with
                | none =>
                  as_aux_lemma =>
                    have GE := Lib.hid (vwGetN wr HVr.out id HID.out HID2.out hTi)
                    by_cases hi1 : 1 ≤ id
                    · by_cases hi64 : id ≤ 64
                      · obtain ⟨kn, rfl⟩ : ∃ kn : Nat, id = (kn : Int) := ⟨id.toNat, by omega⟩
                        have HTI := Lib.hid hTi
                        have jq : (0 : Int) ≤ (kn : Int) := by omega
                        have jq2 : (kn : Int) < 65 := by omega
                        clear hTi
                        go_wp2_with fail
                        refine GE.out.mono ?_
                        rintro e w3 ⟨b3, c3, rfl, hb3⟩
                        have hb4 : Below w3.heap.size w3 (w3.alloc (.cells #[.int .u64 0, .int .u64 0, .slice b3 0 c3] 50)) := (Below.refl _ _).alloc (Nat.le_refl _) _
                        have HV4 := Lib.hid (HVr.out.below (below_trans2 hb3 hb4))
                        have HB4 := Lib.hid (below_trans2 hb3 hb4)
                        have LE := Lib.hid (vwLen _ HV4.out)
                        have AL := Lib.hid (vwAll _ tx HV4.out)
                        clear hb3 hb4
                        go_upto_region 42 with fail
                        generalize w3.alloc (.cells #[.int .u64 0, .int .u64 0, .slice b3 0 c3] 50) = W4 at *
                        go_wp2_with fail
                        refine LE.out.mono ?_
                        rintro e w5 ⟨rfl, rfl⟩
                        have hnn1 : ((nn2 : Int) != (nn2 : Int)) = false := by simp
                        go_wp2_with fail
                        refine AL.out.mono ?_
                        rintro e w6 ⟨bb, rfl, hbb, hb6⟩
                        obtain rfl := HA.out.same HV4.out.dom hbb
                        have hbb2 : (bb != bb) = false := by simp
                        have HB6 := Lib.hid (below_trans2 HB4.out hb6)
                        have HV6 := Lib.hid (HV4.out.below hb6)
                        have HBF := Lib.hid (OthersKept.below HBr.out (OthersKept.of_below (p := fun _ => False) HB6.out) (fun _ _ h => h))
                        have HTF := Lib.hid (HTr.out.below HB6.out)
                        have hszf := HB6.out.size
                        have z1 : w6.cell? ⟨pb, kn, none⟩ = some (.bool false) := by have h := (HTF.out.opn kn (by omega)).1; rw [HTI.out] at h; exact h
                        clear hbb hb6
                        go_wp2_with fail
                        go_roundw
                        case rel => exact ⟨i + 1, nn2, T2, rfl, by go_num, by omega, by omega, HV6.out, HTF.out, HBF.out, by omega⟩
                        case measure => simp [intOf] <;> omega
                      · clear hTi
                        go_wp2_with fail
                        refine GE.out.mono ?_
                        rintro e w3 ⟨b3, c3, rfl, hb3⟩
                        have hb4 : Below w3.heap.size w3 (w3.alloc (.cells #[.int .u64 0, .int .u64 0, .slice b3 0 c3] 50)) := (Below.refl _ _).alloc (Nat.le_refl _) _
                        have HV4 := Lib.hid (HVr.out.below (below_trans2 hb3 hb4))
                        have HB4 := Lib.hid (below_trans2 hb3 hb4)
                        have LE := Lib.hid (vwLen _ HV4.out)
                        have AL := Lib.hid (vwAll _ tx HV4.out)
                        clear hb3 hb4
                        go_upto_region 42 with fail
                        generalize w3.alloc (.cells #[.int .u64 0, .int .u64 0, .slice b3 0 c3] 50) = W4 at *
                        go_wp2_with fail
                        refine LE.out.mono ?_
                        rintro e w5 ⟨rfl, rfl⟩
                        have hnn1 : ((nn2 : Int) != (nn2 : Int)) = false := by simp
                        go_wp2_with fail
                        refine AL.out.mono ?_
                        rintro e w6 ⟨bb, rfl, hbb, hb6⟩
                        obtain rfl := HA.out.same HV4.out.dom hbb
                        have hbb2 : (bb != bb) = false := by simp
                        have HB6 := Lib.hid (below_trans2 HB4.out hb6)
                        have HV6 := Lib.hid (HV4.out.below hb6)
                        have HBF := Lib.hid (OthersKept.below HBr.out (OthersKept.of_below (p := fun _ => False) HB6.out) (fun _ _ h => h))
                        have HTF := Lib.hid (HTr.out.below HB6.out)
                        have hszf := HB6.out.size
                        clear hbb hb6
                        go_wp2_with fail
                        go_roundw
                        case rel => exact ⟨i + 1, nn2, T2, rfl, by go_num, by omega, by omega, HV6.out, HTF.out, HBF.out, by omega⟩
                        case measure => simp [intOf] <;> omega
                    · clear hTi
                      go_wp2_with fail
                      refine GE.out.mono ?_
                      rintro e w3 ⟨b3, c3, rfl, hb3⟩
                      have hb4 : Below w3.heap.size w3 (w3.alloc (.cells #[.int .u64 0, .int .u64 0, .slice b3 0 c3] 50)) := (Below.refl _ _).alloc (Nat.le_refl _) _
                      have HV4 := Lib.hid (HVr.out.below (below_trans2 hb3 hb4))
                      have HB4 := Lib.hid (below_trans2 hb3 hb4)
                      have LE := Lib.hid (vwLen _ HV4.out)
                      have AL := Lib.hid (vwAll _ tx HV4.out)
                      clear hb3 hb4
                      go_upto_region 42 with fail
                      generalize w3.alloc (.cells #[.int .u64 0, .int .u64 0, .slice b3 0 c3] 50) = W4 at *
                      go_wp2_with fail
                      refine LE.out.mono ?_
                      rintro e w5 ⟨rfl, rfl⟩
                      have hnn1 : ((nn2 : Int) != (nn2 : Int)) = false := by simp
                      go_wp2_with fail
                      refine AL.out.mono ?_
                      rintro e w6 ⟨bb, rfl, hbb, hb6⟩
                      obtain rfl := HA.out.same HV4.out.dom hbb
                      have hbb2 : (bb != bb) = false := by simp
                      have HB6 := Lib.hid (below_trans2 HB4.out hb6)
                      have HV6 := Lib.hid (HV4.out.below hb6)
                      have HBF := Lib.hid (OthersKept.below HBr.out (OthersKept.of_below (p := fun _ => False) HB6.out) (fun _ _ h => h))
                      have HTF := Lib.hid (HTr.out.below HB6.out)
                      have hszf := HB6.out.size
                      clear hbb hb6
                      go_wp2_with fail
                      go_roundw
                      case rel => exact ⟨i + 1, nn2, T2, rfl, by go_num, by omega, by omega, HV6.out, HTF.out, HBF.out, by omega⟩
                      case measure => simp [intOf] <;> omega
                | some ei =>
                  as_aux_lemma =>
                    have GE := Lib.hid (vwGet wr HVr.out id ei hTi)
                    obtain ⟨hi1, hi64⟩ := HVr.out.dom id (by rw [hTi]; rfl)
                    obtain ⟨kn, rfl⟩ : ∃ kn : Nat, id = (kn : Int) := ⟨id.toNat, by omega⟩
                    have HTI := Lib.hid hTi
                    have jq : (0 : Int) ≤ (kn : Int) := by omega
                    have jq2 : (kn : Int) < 65 := by omega
                    clear hTi
                    obtain ⟨own2, next2, bq, cq, ys⟩ := ei
                    simp only at GE
                    generalize ys.length = lk at *
                    go_wp2_with fail
                    refine GE.out.mono ?_
                    rintro e w3 ⟨b3, c3, rfl, _, hb3⟩
                    have hb4 : Below w3.heap.size w3 (w3.alloc (.cells #[.int .u64 own2, .int .u64 next2, .slice b3 lk c3] 50)) := (Below.refl _ _).alloc (Nat.le_refl _) _
                    have HV4 := Lib.hid (HVr.out.below (below_trans2 hb3 hb4))
                    have HB4 := Lib.hid (below_trans2 hb3 hb4)
                    have LE := Lib.hid (vwLen _ HV4.out)
                    have AL := Lib.hid (vwAll _ tx HV4.out)
                    clear hb3 hb4
                    go_upto_region 42 with fail
                    generalize w3.alloc (.cells #[.int .u64 own2, .int .u64 next2, .slice b3 lk c3] 50) = W4 at *
                    go_wp2_with fail
                    refine LE.out.mono ?_
                    rintro e w5 ⟨rfl, rfl⟩
                    have hnn1 : ((nn2 : Int) != (nn2 : Int)) = false := by simp
                    go_wp2_with fail
                    refine AL.out.mono ?_
                    rintro e w6 ⟨bb, rfl, hbb, hb6⟩
                    obtain rfl := HA.out.same HV4.out.dom hbb
                    have hbb2 : (bb != bb) = false := by simp
                    have HB6 := Lib.hid (below_trans2 HB4.out hb6)
                    have HV6 := Lib.hid (HV4.out.below hb6)
                    have HBF := Lib.hid (OthersKept.below HBr.out (OthersKept.of_below (p := fun _ => False) HB6.out) (fun _ _ h => h))
                    have HTF := Lib.hid (HTr.out.below HB6.out)
                    have hszf := HB6.out.size
                    have z1 : w6.cell? ⟨pb, kn, none⟩ = some (.bool true) := by have h := (HTF.out.opn kn (by omega)).1; rw [HTI.out] at h; exact h
                    clear hbb hb6
                    go_wp2_with fail
                    go_roundw
                    case rel => exact ⟨i + 1, nn2, T2, rfl, by go_num, by omega, by omega, HV6.out, HTF.out, HBF.out, by omega⟩
                    case measure => simp [intOf] <;> omega
    · have hci : ¬ (i : Int) < (n : Int) := by omega
      go_wp2_with fail
      refine (WK.out _).mono ?_
      rintro e z5 ⟨rfl, hb5⟩
      have HB5 := Lib.hid (OthersKept.below HB.out (OthersKept.of_below (p := fun _ => False) hb5) (fun _ _ h => h))
      clear hb5
      go_wp2_with fail
      go_ret
      exact ⟨rfl, HB5.out⟩

end Go.Proofs.Ytoeaakadpillnaa
