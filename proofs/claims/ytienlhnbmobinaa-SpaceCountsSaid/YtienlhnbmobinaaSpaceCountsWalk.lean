/- chapter 16: the walk of SpaceCounts -/
import Derived.Test.YtienlhnbmobinaaRows
import Derived.Test.YtienlhnbmobinaaNatsIn
import Derived.Test.YtienlhnbmobinaaSpaceWorks
import Derived.Test.YtienlhnbmobinaaSpaceNew
import Derived.Test.YtienlhnbmobinaaSpaceRefNew
import Derived.Test.YtienlhnbmobinaaSpaceHelp
import Derived.Test.YtienlhnbmobinaaSpaceRef
import Derived.Test.YtienlhnbmobinaaSpaceIs
import Derived.Test.YtienlhnbmobinaaSpaceOp
import Derived.Test.YtienlhnbmobinaaSpaceNums
import Derived.Test.YtienlhnbmobinaaSpaceAll
import Derived.Test.YtienlhnbmobinaaSpaceFree
import Derived.Test.YtienlhnbmobinaaSpaceCheck
import Derived.Test.YtienlhnbmobinaaOpApply
import Derived.Test.YtienlhnbmobinaaOpDoes
import Derived.Test.YtienlhnbmobinaaOpLaw
import Derived.Test.YtienlhnbmobinaaOpWrite
import Derived.Test.YtienlhnbmobinaaOpSame
import Derived.Test.YtienlhnbmobinaaOpPart
import Derived.Test.YtienlhnbmobinaaSpacePlain
import Derived.Test.YtienlhnbmobinaaOpPlain
import Derived.Test.YtienlhnbmobinaaNodeWeigh
import Derived.Test.YtienlhnbmobinaaPgStore
import Derived.Test.YtienlhnbmobinaaTextsMove
import Derived.Test.YtienlhnbmobinaaPlains
import Derived.Test.YtienlhnbmobinaaBase
import Derived.Test.YtienlhnbmobinaaTextsP
import Derived.Deep.CutBlock
import Derived.WalkKit
import Derived.WalkLawsBesides
import Derived.WalkSpells
import Derived.LoopTactic
import Derived.WalkMore
import Derived.LoopN
import Derived.Laws.BitsAllLaws
import Derived.Laws.IdiomStrings
import Derived.BigQuiet
import Derived.Deep.QuietTactic
import Derived.Deep.DeepCutAuto
import Derived.Deep.RegionHeld3
import Derived.Deep.DrawnRows
import Derived.Lib.Hide
import Derived.Outline
import Derived.Deep.DeepMust
import Derived.Handy
namespace Go.Proofs.Ytienlhnbmobinaa
open Go.RowKit
set_option linter.unusedVariables false
set_option linter.unusedSimpArgs false

theorem rise_len : ∀ (l : List Nat) (a n : Nat), l.Pairwise (· < ·) → (∀ x ∈ l, a ≤ x ∧ x < n) → l.length ≤ n - a
  | [], _, _, _, _ => Nat.zero_le _
  | x :: l, a, n, hp, h => by
    have h1 := h x (by simp)
    have h2 := List.pairwise_cons.1 hp
    have := rise_len l (x + 1) n h2.2 (fun y hy => ⟨h2.1 y hy, (h y (by simp [hy])).2⟩)
    simp only [List.length_cons]
    omega
theorem free_rise (p : Pg) : (freeL p).Pairwise (· < ·) := by
  unfold freeL
  split
  · exact (List.pairwise_map.2 ((List.pairwise_lt_range.filter _).imp (fun h => Nat.succ_lt_succ h)))
  · exact List.Pairwise.nil
theorem rise_nth {l : List Nat} (h : l.Pairwise (· < ·)) {i : Nat} (hi : i + 1 < l.length) : l[i]'(by omega) < l[i + 1] :=
  List.pairwise_iff_getElem.1 h i (i + 1) (by omega) hi (by omega)
theorem new_bound {me n : Nat} {L : List Nat} (h : newOk me (n : Int) L) {x : Nat} (hx : x ∈ freeL ⟨4, 0, me, 0, 0, [newRow me n L]⟩) : 1 ≤ x ∧ x ≤ n ∧ x ≠ me := by
  rw [free_new h] at hx
  obtain ⟨k, hk, rfl⟩ := List.mem_map.1 hx
  have := (List.mem_filter.1 hk).2
  simp only [Bool.not_eq_true', Bool.or_eq_false_iff, decide_eq_false_iff_not, List.mem_cons, not_or] at this
  omega
theorem counts_law {me n : Nat} {L : List Nat} (h : newOk me (n : Int) L) (hme : me < 256 ^ 4) :
    ∃ (p q s : Pg) (r : List UInt8), newB me (n : Int) L = (p, 0) ∧ p.wf ∧ q.wf ∧ weightB p.rows ≤ 1000000 ∧ weightB q.rows ≤ 1000000 ∧ p.rows = [r] ∧ q.rows.length ≤ 900000 ∧ s.rows = [r] ∧
      countB p = (1024 - (freeL p).length, (freeL p).length) ∧ (freeL p).length ≤ 1024 ∧ (freeL p).length ≤ n ∧
      (∀ i (hi : i < (freeL p).length), (freeL p)[i] ≤ n ∧ isB p (freeL p)[i] = false) ∧
      (∀ i (hi : i + 1 < (freeL p).length), (freeL p)[i] < (freeL p)[i + 1]) ∧
      ((freeL p) = [] → allocB p = (0, Od.zero, 4)) ∧
      (∀ a F, freeL p = a :: F → allocB p = (a, patchO p a, 0) ∧ (patchO p a).wf ∧ applyB p (patchO p a) 7 = (q, 0) ∧ giveB q a = (patchO q a, 0) ∧ (patchO q a).wf ∧ applyB q (patchO q a) 7 = (s, 0)) := by
  have hmap := new_map h
  have hlen := newRow_length me n L
  obtain ⟨R, hR⟩ : ∃ R, R = newRow me n L := ⟨_, rfl⟩
  have hall : ∀ x ∈ freeL ⟨4, 0, me, 0, 0, [R]⟩, 1 ≤ x ∧ x ≤ n ∧ x ≠ me := fun x hx => new_bound h (by rw [hR] at hx; exact hx)
  have hnew : newB me (n : Int) L = (⟨4, 0, me, 0, 0, [R]⟩, 0) := by rw [newB_yes h, hR]; rfl
  rw [← hR] at hmap hlen
  clear hR
  obtain ⟨a, ha⟩ : ∃ a, a = (freeL ⟨4, 0, me, 0, 0, [R]⟩).headD 1 := ⟨_, rfl⟩
  have hwfp : Pg.wf ⟨4, 0, me, 0, 0, [R]⟩ := ⟨(show 4 < 256 by omega), (show 0 < 256 by omega), hme, (show 0 < 256 ^ 8 by omega), (show 0 < 256 ^ 4 by omega)⟩
  have hwfq : Pg.wf ⟨4, 0, me, 7, 0, [flipAt R (a - 1)]⟩ := ⟨(show 4 < 256 by omega), (show 0 < 256 by omega), hme, (show 7 < 256 ^ 8 by omega), (show 0 < 256 ^ 4 by omega)⟩
  refine ⟨⟨4, 0, me, 0, 0, [R]⟩, ⟨4, 0, me, 7, 0, [flipAt R (a - 1)]⟩, ⟨4, 0, me, 7, 0, [flipAt (flipAt R (a - 1)) (a - 1)]⟩, R, hnew, hwfp, hwfq, ?_, ?_, rfl, by simp, ?_, ?_, free_len _, ?_, ?_, ?_, ?_, ?_⟩
  · simp only [weightB_cons, weightB_nil]; omega
  · simp only [weightB_cons, weightB_nil, flipAt_length]; omega
  · have hal : (a - 1) / 8 < R.length := by
      rw [hlen]
      cases hF : freeL ⟨4, 0, me, 0, 0, [R]⟩ with
      | nil => rw [hF] at ha; simp at ha; omega
      | cons x F => rw [hF] at ha; simp at ha; subst ha; have := (free_mem2 (p := ⟨4, 0, me, 0, 0, [R]⟩) (n := a) (by rw [hF]; simp)).2.1; omega
    simp only [flip_back R (a - 1) hal]
  · unfold countB; rw [if_pos hmap]
  · have := rise_len _ 1 (n + 1) (free_rise ⟨4, 0, me, 0, 0, [R]⟩) (fun x hx => ⟨(hall x hx).1, by have := (hall x hx).2.1; omega⟩)
    omega
  · intro i hi
    have hx := List.getElem_mem hi
    obtain ⟨h1, h2, h3⟩ := free_mem2 hx
    refine ⟨(hall _ hx).2.1, ?_⟩
    unfold isB
    rw [h3, decide_eq_false (by omega), decide_eq_false (by omega)]
    simp
  · intro i hi
    exact rise_nth (free_rise _) hi
  · intro he
    unfold allocB
    rw [if_pos hmap, he]
  · intro x F hF
    have hxa : a = x := by rw [ha, hF]; rfl
    subst hxa
    have hx : a ∈ freeL ⟨4, 0, me, 0, 0, [R]⟩ := by rw [hF]; simp
    obtain ⟨h1, h2, h3⟩ := free_mem2 hx
    have hne := (hall a hx).2.2
    have hal : (a - 1) / 8 < R.length := by rw [hlen]; omega
    simp only [mapRow, List.getD_cons_zero] at h3
    have hp := patch_apply hmap h1 h2 hne 7
    simp only [mapRow, List.getD_cons_zero] at hp
    have hq := patch_apply hp.2 h1 h2 hne 7
    simp only [mapRow, List.getD_cons_zero] at hq
    refine ⟨?_, patchO_wf hwfp h2, hp.1, ?_, patchO_wf hwfq h2, hq.1⟩
    · unfold allocB; rw [if_pos hmap, hF]
    · unfold giveB
      rw [if_pos hp.2, if_neg (by simp only; omega), if_pos]
      simp only [mapRow, List.getD_cons_zero]
      rw [bit_flip R (a - 1) (a - 1) hal, if_pos rfl, h3]
      rfl
set_option maxHeartbeats 8000000 in
set_option maxRecDepth 100000 in
theorem spaceCountsLaw_any (id pages : Nat) (tv : Value) (ts : List Nat) (w : World) (hid : id < 256 ^ 2) (hpg : pages < 256 ^ 2) (ht : N16At w tv ts) (hts : ∀ t ∈ ts, t < 256 ^ 2) :
    Calls Try.prog 6 #[.int .u16 id, .int .u16 pages, tv] w fun e w' => e = .returned (.bool true) ∧ Below w.heap.size w w' := by
  have AL := Lib.hid fun W => works16_any W
  have HTS := Lib.hid hts
  obtain ⟨tn, htn⟩ : ∃ n, n = ts.length := ⟨_, rfl⟩
  obtain ⟨TA, tc, htv, k2, k3, _, k5⟩ := ht
  have K5 := Lib.hid k5
  rw [← htn] at htv k2
  subst htv
  unfold maxLen at k3
  have HTN := Lib.hid htn
  clear htn hts k5
  obtain ⟨i0, hif, hz0, hz1, hz2⟩ := info_parts Try.infoU32
  have HI := Lib.hid hif
  have HI0 := Lib.hid hz0
  have HI1 := Lib.hid hz1
  have HI2 := Lib.hid hz2
  clear hif hz0 hz1 hz2
  obtain ⟨n, hn⟩ : ∃ n, n = 1 + pages % 1024 := ⟨_, rfl⟩
  have hni : (1 : Int) + (pages : Int) % 1024 = (n : Int) := by omega
  have hn1 : 1 ≤ n := by omega
  have hn2 : n ≤ 1024 := by omega
  have HNI := Lib.hid hni
  clear hn hni
  go_enter Try.func6, Try.ntmps6
  by_cases ht60 : tn ≤ 60
  case neg =>
    have hti : decide ((60 : Int) < (tn : Int)) = true := decide_eq_true (by omega)
    go_wp2_with fail
    refine (AL.out _).mono ?_
    rintro e wa ⟨rfl, hba⟩
    have Ba := Lib.hid hba
    clear hba
    go_wp2_with fail
    go_ret
    exact ⟨rfl, Ba.out⟩
  have hti : decide ((60 : Int) < (tn : Int)) = false := decide_eq_false (by omega)
  go_upto_region 4 with fail
  rw [HNI.out]
  obtain ⟨L, hL⟩ : ∃ L, L = ts.map (fun t => 1 + t % n) := ⟨_, rfl⟩
  have hLl : L.length = tn := by rw [hL, List.length_map]; exact HTN.out.symm
  have hLm : ∀ x ∈ L, 1 ≤ x ∧ x ≤ n := by
    rw [hL]
    intro x hx
    obtain ⟨t, _, rfl⟩ := List.mem_map.1 hx
    have := Nat.mod_lt t (show n > 0 by omega)
    omega
  have HLG := Lib.hid fun (i : Nat) (hi : i < ts.length) => (show ∃ h : i < L.length, L[i] = 1 + ts[i] % n from ⟨by rw [hLl, HTN.out]; exact hi, by simp only [hL, List.getElem_map]⟩)
  have HLL := Lib.hid hLl
  have HLM := Lib.hid hLm
  clear hL hLl hLm
  go_wp2_with fail
  go_loopw [8, 9] (fun s8 s9 wr => ∃ i : Nat, s9 = .int .i64 i ∧ i ≤ tn ∧ Hid (wr.ownsRow w.heap.size 22 1 s8 i (n32 (L.take i))) ∧ Hid (Below w.heap.size w wr)) (fun _ v _ => tn - (intOf v).toNat)
  case atStart => exact ⟨0, rfl, Nat.zero_le _, Lib.hid (World.ownsRow_nil _ _ _ _), Lib.hid (Below.refl _ _)⟩
  case round =>
    obtain ⟨i, rfl, hi, OO, BB⟩ := hrel
    by_cases hlt : i < tn
    · have hci : (i : Int) < (tn : Int) := by omega
      have hit : i < ts.length := by rw [← HTN.out]; exact hlt
      obtain ⟨hil, hLi⟩ := HLG.out i hit
      obtain ⟨b0, o0, rfl, hb0, hcell⟩ := K5.out (by omega)
      have c1 := (BB.out.cell (p := ⟨b0, o0 + i, none⟩) hb0).trans (hcell i hit)
      have q1 : (0 : Int) ≤ (i : Int) := by omega
      have htb := HTS.out _ (List.getElem_mem hit)
      generalize ts[i] = t at *
      have hmod := Nat.mod_lt t (show n > 0 by omega)
      obtain ⟨x, hx⟩ : ∃ x, x = 1 + t % n := ⟨_, rfl⟩
      have hx1 : (1 : Int) + (t : Int) % (n : Int) = (x : Int) := by rw [hx]; simp
      have hm0 : (0 : Int) ≤ (t : Int) % (n : Int) := Int.emod_nonneg _ (by omega)
      have hm1 : (t : Int) % (n : Int) < 1024 := by omega
      have htk : n32 (L.take (i + 1)) = n32 (L.take i) ++ [.int .u32 (x : Int)] := by
        rw [List.take_succ_eq_append_getElem hil, n32_append, hLi, ← hx]; rfl
      have HTK := Lib.hid htk
      have hn0 : ((n : Int) == 0) = false := by simp; omega
      have hnp : (0 : Int) < (n : Int) := by omega
      clear hcell hLi hil htk hx hit hmod
      have O6 := Lib.hid (own_below OO.out (alloc_below wr (.cells #[.int .u32 x] 22)))
      have B6 := Lib.hid (BB.out.alloc BB.out.size (.cells #[.int .u32 x] 22))
      have hs6 : w.heap.size ≤ (wr.alloc (.cells #[.int .u32 x] 22)).heap.size := B6.out.size
      have R6 := Lib.hid (num_one32 wr x)
      clear OO BB
      go_wp2_with (at_builtin; refine wpList_append_any _ rfl _ _ 55 rfl w.heap.size 22 i0 (.int .u32 0) 1 4 Try.underlying55 HI.out HI0.out HI1.out HI2.out rfl (by decide) _ i _ (by rfl) O6.out (.slice (some ⟨wr.heap.size, 0, none⟩) 1 1) 1 [.int .u32 x] (by rfl) R6.out (fun u hu => by rw [List.mem_singleton.1 hu]; rfl) (by unfold maxLen; omega) (by omega) hs6 ?_; intro v7 w7 hown7 hgrow7; have O7 := Lib.hid hown7; have B7 := Lib.hid (B6.out.grown hgrow7 B6.out.size (fun j hj => (O6.out.lt j hj).1)); clear hown7 hgrow7 O6 B6)
      refine ⟨⟨i + 1, by simp, by omega, Lib.hid ?_, B7⟩, ?_⟩
      · rw [HTK.out]; exact O7.out
      · simp only [intOf]; omega
    · have hit : ¬ (i : Int) < (tn : Int) := by omega
      have hie : tn = i := by omega
      subst hie
      generalize wr = w0 at *
      have B0 := BB
      obtain ⟨me, hme⟩ : ∃ m, m = 1 + id % n := ⟨_, rfl⟩
      have hmod := Nat.mod_lt id (show n > 0 by omega)
      have hx1 : (1 : Int) + (id : Int) % (n : Int) = (me : Int) := by rw [hme]; simp
      have hm0 : (0 : Int) ≤ (id : Int) % (n : Int) := Int.emod_nonneg _ (by omega)
      have hm1 : (id : Int) % (n : Int) < 1024 := by omega
      have hn0 : ((n : Int) == 0) = false := by simp; omega
      have hnp : (0 : Int) < (n : Int) := by omega
      have hN0 := (n32_own OO.out).1
      rw [List.take_of_length_le (by rw [HLL.out]; omega)] at hN0
      have N0 := Lib.hid hN0
      have hok : newOk me (n : Int) L := ⟨by omega, by omega, fun x hx => by
        rcases List.mem_cons.1 hx with rfl | h
        · omega
        · have := HLM.out x h; omega⟩
      obtain ⟨⟨pa, pb, pc, pd, pe, rowsP⟩, ⟨qa, qb, qc, qd, qe, rowsQ⟩, ⟨sa, sb, sc, sd, se, rowsS⟩, r, hnew, hwfp, hwfq, hwp, hwq, hrp, hlq, hrs, hcnt, hl1024, hln, hfree, hrise, hnil, hcons⟩ := counts_law hok (by omega)
      simp only at hwp hwq hrp hlq hrs
      subst hrp hrs
      have CN := Lib.hid fun tv W (h : N32At W tv L) => spaceNew_any me (n : Int) tv L W (by omega) (by omega) h (fun t ht => by have := HLM.out t ht; omega) (by rw [HLL.out]; omega)
      rw [hnew] at CN
      have CO := Lib.hid fun sv W h => spaceCount_any ⟨pa, pb, pc, pd, pe, [r]⟩ sv W hwfp h hwp
      rw [hcnt] at CO
      have CL := Lib.hid fun sv W h => spaceAll_any ⟨pa, pb, pc, pd, pe, [r]⟩ sv W hwfp h hwp
      have CA := Lib.hid fun sv W h => spaceAlloc_any ⟨pa, pb, pc, pd, pe, [r]⟩ sv W hwfp h hwp
      have CI := Lib.hid fun x sv W h => spaceIs_any ⟨pa, pb, pc, pd, pe, [r]⟩ sv x W hwfp h hwp
      obtain ⟨F, hF⟩ : ∃ F, F = freeL ⟨pa, pb, pc, pd, pe, [r]⟩ := ⟨_, rfl⟩
      rw [← hF] at CO CL hl1024 hln hnil
      have hfree2 : ∀ i (hi : i < F.length), F[i] ≤ n ∧ isB ⟨pa, pb, pc, pd, pe, [r]⟩ F[i] = false := by subst hF; exact hfree
      have hrise2 : ∀ i (hi : i + 1 < F.length), F[i] < F[i + 1] := by subst hF; exact hrise
      have AP := Lib.hid fun a F' (h : F = a :: F') => hcons a F' (by rw [← hF]; exact h)
      have AA := Lib.hid fun a lsn sv tv W (h : TextsAt W sv [r]) (hu : TextsAt W tv []) (hw : (patchO ⟨pa, pb, pc, pd, pe, [r]⟩ a).wf) (hl : lsn < 256 ^ 8) => opApply_any ⟨pa, pb, pc, pd, pe, [r]⟩ (patchO ⟨pa, pb, pc, pd, pe, [r]⟩ a) sv tv lsn W h hu hwfp hw (patchO_small _ _) hl hwp (by simp)
      have QA := Lib.hid fun a lsn sv tv W (h : TextsAt W sv rowsQ) (hu : TextsAt W tv []) (hw : (patchO ⟨qa, qb, qc, qd, qe, rowsQ⟩ a).wf) (hl : lsn < 256 ^ 8) => opApply_any ⟨qa, qb, qc, qd, qe, rowsQ⟩ (patchO ⟨qa, qb, qc, qd, qe, rowsQ⟩ a) sv tv lsn W h hu hwfq hw (patchO_small _ _) hl hwq hlq
      have CF := Lib.hid fun a sv W h => spaceGive_any ⟨qa, qb, qc, qd, qe, rowsQ⟩ sv a W hwfq h hwq
      have HFR := Lib.hid hfree2
      have HRS := Lib.hid hrise2
      have HNI2 := Lib.hid hnil
      obtain ⟨ln, hlnF⟩ : ∃ z, z = F.length := ⟨_, rfl⟩
      rw [← hlnF] at CO hl1024 hln
      have HLN := Lib.hid hlnF
      obtain ⟨c1, hc1⟩ : ∃ z, z = 1024 - ln := ⟨_, rfl⟩
      rw [← hc1] at CO
      have hsum : (c1 : Int) + (ln : Int) = 1024 := by omega
      have hgt : decide (n < ln) = false := decide_eq_false (by omega)
      simp only at CN CO CL CA CI AA QA CF
      unfold pgV at CO CL CA CI AA QA CF
      unfold odV at CA AA QA CF
      simp only at CO CL CA CI AA QA CF
      clear BB OO hN0 hok hnew hwfp hwfq hwp hwq hlq hcnt hfree hrise hnil hcons hF hfree2 hrise2 hlnF hc1 hme hmod HLM HLL HLG HTS K5 HI HI0 HI1 HI2 hti HTN HNI
      go_wp2_with fail
      refine (CN.out _ _ N0.out).mono ?_
      rintro e w1 ⟨sv1, rfl, G, hb⟩
      simp only at G
      obtain ⟨np, hnp⟩ : ∃ z, z = [r].length := ⟨_, rfl⟩
      have Hnp := Lib.hid hnp
      clear hnp
      have T1 := Lib.hid G
      obtain ⟨A1, cp1, hv1, _, _, _, _⟩ := G
      rw [← Hnp.out] at hv1
      subst hv1
      have B1 := Lib.hid (below_then B0.out hb)
      clear hb B0 
      unfold pgV
      simp only
      go_upto_region 10 with fail
      have BN := Lib.hid (alloc_below w1 (.cells #[.int .u8 pa, .int .u8 pb, .int .u32 pc, .int .u64 pd, .int .u32 pe, .slice A1 np cp1] 26))
      have P2 := Lib.hid (PgBox.new w1 pa pb pc pd pe (.slice A1 np cp1))
      generalize w1.alloc (.cells #[.int .u8 pa, .int .u8 pb, .int .u32 pc, .int .u64 pd, .int .u32 pe, .slice A1 np cp1] 26) = w2 at *
      have hb := BN.out
      clear BN
      have B2 := Lib.hid (below_then B1.out hb)
      have T2 := Lib.hid (T1.out.below hb)
      clear hb B1 T1
      clear N0 CN hx1 hm0 hm1
      obtain ⟨x0, x1, x2, x3, x4, x5, x6⟩ := P2.out.cells
      go_wp2_with fail
      clear x0 x1 x2 x3 x4 x5 x6
      refine (CO.out _ _ T2.out).mono ?_
      rintro e w3 ⟨rfl, hb⟩
      have B3 := Lib.hid (below_then B2.out hb)
      have T3 := Lib.hid (T2.out.below hb)
      have P3 := Lib.hid (P2.out.below hb)
      clear hb B2 T2 P2
      obtain ⟨x0, x1, x2, x3, x4, x5, x6⟩ := P3.out.cells
      go_wp2_with fail
      clear x0 x1 x2 x3 x4 x5 x6
      refine (CL.out _ _ T3.out).mono ?_
      rintro e w4 ⟨vL, rfl, hN, hb⟩
      have NL4 := Lib.hid hN
      obtain ⟨AL2, cL, hvL, n2, n3, _, _⟩ := hN
      rw [← HLN.out] at hvL n2
      unfold maxLen at n3
      subst hvL
      clear CO CL
      have B4 := Lib.hid (below_then B3.out hb)
      have T4 := Lib.hid (T3.out.below hb)
      have P4 := Lib.hid (P3.out.below hb)
      clear hb B3 T3 P3
      go_wp2_with fail
      go_loopw [15] (fun s15 wr => ∃ i : Nat, s15 = .int .i64 i ∧ i ≤ ln ∧ Hid (Below w4.heap.size w4 wr)) (fun v _ => ln - (intOf v).toNat)
      case atStart => exact ⟨0, rfl, Nat.zero_le _, Lib.hid (Below.refl _ _)⟩
      case round =>
        obtain ⟨i, rfl, hi, BB⟩ := hrel
        by_cases hlt : i < ln
        · have hci : (i : Int) < (ln : Int) := by omega
          have hiF : i < F.length := by rw [← HLN.out]; exact hlt
          obtain ⟨hle, his⟩ := HFR.out i hiF
          obtain ⟨Ax, cx, hvx, _, _, _, hcx⟩ := (NL4.out.below BB.out)
          obtain ⟨bx, ox, hax, hbx, hcellx⟩ := hcx (by omega)
          subst hax
          have hAL : AL2 = some ⟨bx, ox, none⟩ := by injection hvx
          subst hAL
          have c0 := ext_cell (hcellx i hiF) hbx
          have hgx : decide (n < F[i]) = false := decide_eq_false (by omega)
          have hw4 : F[i] < 2000 := by omega
          have Z1 := Lib.hid fun (y : Ext wr.heap.size wr) => CI.out F[i] _ y.val ((T4.out.below BB.out).below y.below)
          rw [his] at Z1
          obtain ⟨pl, p0, p1, p2, p3, p4, p5⟩ := (P4.out.below BB.out).cells
          have x0 := ext_cell p0 pl
          have x1 := ext_cell p1 pl
          have x2 := ext_cell p2 pl
          have x3 := ext_cell p3 pl
          have x4 := ext_cell p4 pl
          have x5 := ext_cell p5 pl
          clear p0 p1 p2 p3 p4 p5 CA CF AA QA AP
          cases i with
          | zero =>
            generalize F[0] = f0 at *
            simp only [Nat.add_zero] at c0
            clear hcellx hcx
            go_wp2_with fail
            refine wp_region_ext wr.heap.size (by kernel_rfl) (by kernel_rfl) ?_
            repeat (go_big_quiet_step ((go_at_call 29; with_reducible exact ext_call _ (Nat.le_refl _) (Z1.out _))))
            refine wpQuiet_nil ?_
            rintro _ ⟨X, rfl⟩
            have hX := BB.out.trans (X.below.mono BB.out.size)
            generalize X.val = wx at hX
            have BX := Lib.hid hX
            go_wp2_with fail
            exact ⟨⟨1, rfl, by omega, BX⟩, by simp [intOf]; omega⟩
          | succ j =>
            have hri := HRS.out j hiF
            have c9 := ext_cell (hcellx j (by omega)) hbx
            have hgy : decide (F[j + 1] ≤ (F[j]'(by omega))) = false := decide_eq_false (by omega)
            have hgp : (0 : Int) < (j : Int) + 1 := by omega
            generalize F[j + 1] = f0 at *
            generalize F[j] = f1 at *
            clear hcellx hcx hri
            go_wp2_with fail
            refine wp_region_ext wr.heap.size (by kernel_rfl) (by kernel_rfl) ?_
            repeat (go_big_quiet_step ((go_at_call 29; with_reducible exact ext_call _ (Nat.le_refl _) (Z1.out _))))
            refine wpQuiet_nil ?_
            rintro _ ⟨X, rfl⟩
            have hX := BB.out.trans (X.below.mono BB.out.size)
            generalize X.val = wx at hX
            have BX := Lib.hid hX
            go_wp2_with fail
            exact ⟨⟨j + 2, by go_num, by omega, BX⟩, by simp [intOf]; omega⟩
        · have hit2 : ¬ (i : Int) < (ln : Int) := by omega
          have hb := BB.out
          clear BB
          generalize wr = w5 at *
          have B5 := Lib.hid (below_then B4.out hb)
          have T5 := Lib.hid (T4.out.below hb)
          have P5 := Lib.hid (P4.out.below hb)
          have NL5 := Lib.hid (NL4.out.below hb)
          clear hb B4 T4 P4 NL4
          cases F with
          | nil =>
            have CA2 := Lib.hid fun sv W h => CA.out sv W h
            rw [HNI2.out rfl] at CA2
            have hl0 : ln = 0 := by rw [HLN.out]; rfl
            subst hl0
            clear CA CF AA QA AP CI HFR HRS
            unfold Od.zero at CA2
            simp only [List.toArray] at CA2
            (try simp only at CA2)
            obtain ⟨x0, x1, x2, x3, x4, x5, x6⟩ := P5.out.cells
            go_wp2_with fail
            clear x0 x1 x2 x3 x4 x5 x6
            refine (CA2.out _ _ T5.out).mono ?_
            rintro e w6 ⟨rfl, hb⟩
            have B6 := Lib.hid (below_then B5.out hb)
            have T6 := Lib.hid (T5.out.below hb)
            have P6 := Lib.hid (P5.out.below hb)
            have NL6 := Lib.hid (NL5.out.below hb)
            clear hb B5 T5 P5 NL5
            obtain ⟨x0, x1, x2, x3, x4, x5, x6⟩ := P6.out.cells
            (try unfold odV)
            (try simp only)
            go_upto_region 22 with fail
            clear x0 x1 x2 x3 x4 x5 x6
            have BN := Lib.hid (alloc_below w6 (.cells #[.int .u8 0, .int .u32 0, .int .i64 0, .int .i64 0, .string ⟨#[]⟩, .slice none 0 0, .int .u8 0, .int .u8 0, .int .u32 0] 28))
            have O7 := Lib.hid (OAt.new w6 Od.zero (.slice none 0 0))
            generalize w6.alloc (.cells #[.int .u8 0, .int .u32 0, .int .i64 0, .int .i64 0, .string ⟨#[]⟩, .slice none 0 0, .int .u8 0, .int .u8 0, .int .u32 0] 28) = w7 at *
            have hb := BN.out
            clear BN
            have B7 := Lib.hid (below_then B6.out hb)
            have T7 := Lib.hid (T6.out.below hb)
            have P7 := Lib.hid (P6.out.below hb)
            have NL7 := Lib.hid (NL6.out.below hb)
            clear hb B6 T6 P6 NL6
            go_wp2_with fail
            refine (AL.out _).mono ?_
            rintro e wa ⟨rfl, hba⟩
            have Ba := Lib.hid (below_then B7.out hba)
            clear hba
            go_wp2_with fail
            go_ret
            exact ⟨rfl, Ba.out⟩
          | cons a F' =>
            obtain ⟨hal, hwo, hap, hgv, hwo2, hap2⟩ := AP.out a F' rfl
            have CA2 := Lib.hid fun sv W h => CA.out sv W h
            rw [hal] at CA2
            have CF2 := Lib.hid fun sv W h => CF.out a sv W h
            rw [hgv] at CF2
            have AA2 := Lib.hid fun sv W h => AA.out a 7 sv (.slice none 0 0) W h (TextsAt.nil W) hwo (by omega)
            rw [hap] at AA2
            have QA2 := Lib.hid fun sv W h => QA.out a 7 sv (.slice none 0 0) W h (TextsAt.nil W) hwo2 (by omega)
            rw [hap2] at QA2
            obtain ⟨⟨o0, o1, o2, o3, o4, o5, o6, o7, o8⟩, hod⟩ : ∃ o, o = patchO ⟨pa, pb, pc, pd, pe, [r]⟩ a := ⟨_, rfl⟩
            rw [← hod] at CA2 AA2
            obtain ⟨⟨v0, v1, v2, v3, v4, v5, v6, v7, v8⟩, hov⟩ : ∃ o, o = patchO ⟨qa, qb, qc, qd, qe, rowsQ⟩ a := ⟨_, rfl⟩
            rw [← hov] at CF2 QA2
            simp only at CA2 AA2 CF2 QA2
            have hl1 : 1 ≤ ln := by rw [HLN.out]; simp
            clear CA CF AA QA AP CI HFR HRS HNI2 hal hwo hap hgv hwo2 hap2 hod hov
            obtain ⟨x0, x1, x2, x3, x4, x5, x6⟩ := P5.out.cells
            go_wp2_with fail
            clear x0 x1 x2 x3 x4 x5 x6
            refine (CA2.out _ _ T5.out).mono ?_
            rintro e w6 ⟨rfl, hb⟩
            have B6 := Lib.hid (below_then B5.out hb)
            have T6 := Lib.hid (T5.out.below hb)
            have P6 := Lib.hid (P5.out.below hb)
            have NL6 := Lib.hid (NL5.out.below hb)
            clear hb B5 T5 P5 NL5
            obtain ⟨x0, x1, x2, x3, x4, x5, x6⟩ := P6.out.cells
            (try unfold odV)
            (try simp only)
            go_upto_region 22 with fail
            clear x0 x1 x2 x3 x4 x5 x6
            have BN := Lib.hid (alloc_below w6 (.cells #[.int .u8 o0, .int .u32 o1, .int .i64 o2, .int .i64 o3, .string ⟨o4.toArray⟩, .slice none 0 0, .int .u8 o6, .int .u8 o7, .int .u32 o8] 28))
            have O7 := Lib.hid (OAt.new w6 ⟨o0, o1, o2, o3, o4, o5, o6, o7, o8⟩ (.slice none 0 0))
            generalize w6.alloc (.cells #[.int .u8 o0, .int .u32 o1, .int .i64 o2, .int .i64 o3, .string ⟨o4.toArray⟩, .slice none 0 0, .int .u8 o6, .int .u8 o7, .int .u32 o8] 28) = w7 at *
            have hb := BN.out
            clear BN
            have B7 := Lib.hid (below_then B6.out hb)
            have T7 := Lib.hid (T6.out.below hb)
            have P7 := Lib.hid (P6.out.below hb)
            have NL7 := Lib.hid (NL6.out.below hb)
            clear hb B6 T6 P6 NL6
            clear CA2
            obtain ⟨x0, x1, x2, x3, x4, x5, x6⟩ := P7.out.cells
            obtain ⟨y0, y1, y2, y3, y4, y5, y6, y7, y8⟩ := O7.out.cells
            simp only at y0 y1 y2 y3 y4 y5 y6 y7 y8
            have y9 := blk_lt O7.out
            go_wp2_with fail
            clear x0 x1 x2 x3 x4 x5 x6 y0 y1 y2 y3 y4 y5 y6 y7 y8 y9
            refine (AA2.out _ _ T7.out).mono ?_
            rintro e w8 ⟨sv8, rfl, G, hb⟩
            simp only at G
            obtain ⟨nq, hnq⟩ : ∃ z, z = rowsQ.length := ⟨_, rfl⟩
            have Hnq := Lib.hid hnq
            clear hnq
            have U8 := Lib.hid G
            obtain ⟨A8, cp8, hv8, _, _, _, _⟩ := G
            rw [← Hnq.out] at hv8
            subst hv8
            have B8 := Lib.hid (below_then B7.out hb)
            have T8 := Lib.hid (T7.out.below hb)
            have P8 := Lib.hid (P7.out.below hb)
            have NL8 := Lib.hid (NL7.out.below hb)
            have O8 := Lib.hid (O7.out.below hb)
            clear hb B7 T7 P7 NL7 O7
            obtain ⟨x0, x1, x2, x3, x4, x5, x6⟩ := P8.out.cells
            obtain ⟨y0, y1, y2, y3, y4, y5, y6, y7, y8⟩ := O8.out.cells
            simp only at y0 y1 y2 y3 y4 y5 y6 y7 y8
            have y9 := blk_lt O8.out
            unfold pgV
            simp only
            go_upto_region 25 with fail
            clear x0 x1 x2 x3 x4 x5 x6 y0 y1 y2 y3 y4 y5 y6 y7 y8 y9
            have BN := Lib.hid (alloc_below w8 (.cells #[.int .u8 qa, .int .u8 qb, .int .u32 qc, .int .u64 qd, .int .u32 qe, .slice A8 nq cp8] 26))
            have Q9 := Lib.hid (PgBox.new w8 qa qb qc qd qe (.slice A8 nq cp8))
            generalize w8.alloc (.cells #[.int .u8 qa, .int .u8 qb, .int .u32 qc, .int .u64 qd, .int .u32 qe, .slice A8 nq cp8] 26) = w9 at *
            have hb := BN.out
            clear BN
            have B9 := Lib.hid (below_then B8.out hb)
            have T9 := Lib.hid (T8.out.below hb)
            have P9 := Lib.hid (P8.out.below hb)
            have NL9 := Lib.hid (NL8.out.below hb)
            have O9 := Lib.hid (O8.out.below hb)
            have U9 := Lib.hid (U8.out.below hb)
            clear hb B8 T8 P8 NL8 O8 U8
            clear AA2
            clear O9
            obtain ⟨x0, x1, x2, x3, x4, x5, x6⟩ := P9.out.cells
            obtain ⟨z0, z1, z2, z3, z4, z5, z6⟩ := Q9.out.cells
            go_wp2_with fail
            clear x0 x1 x2 x3 x4 x5 x6 z0 z1 z2 z3 z4 z5 z6
            refine (CF2.out _ _ U9.out).mono ?_
            rintro e w10 ⟨rfl, hb⟩
            have B10 := Lib.hid (below_then B9.out hb)
            have T10 := Lib.hid (T9.out.below hb)
            have P10 := Lib.hid (P9.out.below hb)
            have NL10 := Lib.hid (NL9.out.below hb)
            have U10 := Lib.hid (U9.out.below hb)
            have Q10 := Lib.hid (Q9.out.below hb)
            clear hb B9 T9 P9 NL9 U9 Q9
            obtain ⟨x0, x1, x2, x3, x4, x5, x6⟩ := P10.out.cells
            obtain ⟨z0, z1, z2, z3, z4, z5, z6⟩ := Q10.out.cells
            (try unfold odV)
            (try simp only)
            go_upto_region 26 with fail
            clear x0 x1 x2 x3 x4 x5 x6 z0 z1 z2 z3 z4 z5 z6
            have BN := Lib.hid (alloc_below w10 (.cells #[.int .u8 v0, .int .u32 v1, .int .i64 v2, .int .i64 v3, .string ⟨v4.toArray⟩, .slice none 0 0, .int .u8 v6, .int .u8 v7, .int .u32 v8] 28))
            have OQ11 := Lib.hid (OAt.new w10 ⟨v0, v1, v2, v3, v4, v5, v6, v7, v8⟩ (.slice none 0 0))
            generalize w10.alloc (.cells #[.int .u8 v0, .int .u32 v1, .int .i64 v2, .int .i64 v3, .string ⟨v4.toArray⟩, .slice none 0 0, .int .u8 v6, .int .u8 v7, .int .u32 v8] 28) = w11 at *
            have hb := BN.out
            clear BN
            have B11 := Lib.hid (below_then B10.out hb)
            have T11 := Lib.hid (T10.out.below hb)
            have P11 := Lib.hid (P10.out.below hb)
            have NL11 := Lib.hid (NL10.out.below hb)
            have U11 := Lib.hid (U10.out.below hb)
            have Q11 := Lib.hid (Q10.out.below hb)
            clear hb B10 T10 P10 NL10 U10 Q10
            clear CF2
            obtain ⟨x0, x1, x2, x3, x4, x5, x6⟩ := P11.out.cells
            obtain ⟨z0, z1, z2, z3, z4, z5, z6⟩ := Q11.out.cells
            obtain ⟨v0, v1, v2, v3, v4, v5, v6, v7, v8⟩ := OQ11.out.cells
            simp only at v0 v1 v2 v3 v4 v5 v6 v7 v8
            have v9 := blk_lt OQ11.out
            go_wp2_with fail
            clear x0 x1 x2 x3 x4 x5 x6 z0 z1 z2 z3 z4 z5 z6 v0 v1 v2 v3 v4 v5 v6 v7 v8 v9
            refine (QA2.out _ _ U11.out).mono ?_
            rintro e w12 ⟨sv12, rfl, G, hb⟩
            simp only at G
            obtain ⟨ns, hns⟩ : ∃ z, z = [r].length := ⟨_, rfl⟩
            have Hns := Lib.hid hns
            clear hns
            have S12 := Lib.hid G
            obtain ⟨A12, cp12, hv12, _, _, _, _⟩ := G
            rw [← Hns.out] at hv12
            subst hv12
            have B12 := Lib.hid (below_then B11.out hb)
            have T12 := Lib.hid (T11.out.below hb)
            have P12 := Lib.hid (P11.out.below hb)
            have NL12 := Lib.hid (NL11.out.below hb)
            have U12 := Lib.hid (U11.out.below hb)
            have Q12 := Lib.hid (Q11.out.below hb)
            have OQ12 := Lib.hid (OQ11.out.below hb)
            clear hb B11 T11 P11 NL11 U11 Q11 OQ11
            obtain ⟨x0, x1, x2, x3, x4, x5, x6⟩ := P12.out.cells
            obtain ⟨z0, z1, z2, z3, z4, z5, z6⟩ := Q12.out.cells
            obtain ⟨v0, v1, v2, v3, v4, v5, v6, v7, v8⟩ := OQ12.out.cells
            simp only at v0 v1 v2 v3 v4 v5 v6 v7 v8
            have v9 := blk_lt OQ12.out
            unfold pgV
            simp only
            go_upto_region 27 with fail
            clear x0 x1 x2 x3 x4 x5 x6 z0 z1 z2 z3 z4 z5 z6 v0 v1 v2 v3 v4 v5 v6 v7 v8 v9
            have BN := Lib.hid (alloc_below w12 (.cells #[.int .u8 sa, .int .u8 sb, .int .u32 sc, .int .u64 sd, .int .u32 se, .slice A12 ns cp12] 26))
            have R13 := Lib.hid (PgBox.new w12 sa sb sc sd se (.slice A12 ns cp12))
            generalize w12.alloc (.cells #[.int .u8 sa, .int .u8 sb, .int .u32 sc, .int .u64 sd, .int .u32 se, .slice A12 ns cp12] 26) = w13 at *
            have hb := BN.out
            clear BN
            have B13 := Lib.hid (below_then B12.out hb)
            have T13 := Lib.hid (T12.out.below hb)
            have P13 := Lib.hid (P12.out.below hb)
            have NL13 := Lib.hid (NL12.out.below hb)
            have U13 := Lib.hid (U12.out.below hb)
            have Q13 := Lib.hid (Q12.out.below hb)
            have OQ13 := Lib.hid (OQ12.out.below hb)
            have S13 := Lib.hid (S12.out.below hb)
            clear hb B12 T12 P12 NL12 U12 Q12 OQ12 S12
            clear OQ13
            clear Q13
            clear U13
            have hnp1 : np = 1 := Hnp.out
            have hns1 : ns = 1 := Hns.out
            obtain ⟨pl, p0, p1, p2, p3, p4, p5⟩ := P13.out.cells
            obtain ⟨rl, r0, r1, r2, r3, r4, r5⟩ := R13.out.cells
            obtain ⟨AX, cX, hvX, _, _, _, hcX⟩ := T13.out
            obtain ⟨bX, oX, hAX, hbX, hcellX⟩ := hcX (by simp)
            subst hAX
            obtain ⟨AY, cY, hvY, _, _, _, hcY⟩ := S13.out
            obtain ⟨bY, oY, hAY, hbY, hcellY⟩ := hcY (by simp)
            subst hAY
            obtain ⟨AZ, cZ, hvZ, _, _, _, hcZ⟩ := NL13.out
            obtain ⟨bZ, oZ, hAZ, hbZ, hcellZ⟩ := hcZ (by simp)
            subst hAZ
            have eX := hcellX 0 (by simp)
            have eY := hcellY 0 (by simp)
            have eZ := hcellZ 0 (by simp)
            simp only [Nat.add_zero, List.getElem_cons_zero] at eX eY eZ
            injection hvX with hvX1 hvX2 hvX3
            injection hvY with hvY1 hvY2 hvY3
            injection hvZ with hvZ1 hvZ2 hvZ3
            subst hvX1 hvY1 hvZ1
            have x5 := ext_cell p5 pl
            have y5 := ext_cell r5 rl
            have z1 := ext_cell eX hbX
            have z2 := ext_cell eY hbY
            have z3 := ext_cell eZ hbZ
            have h1p : ((np : Int) == 1) = true := by rw [hnp1]; rfl
            have h1s : ((ns : Int) == 1) = true := by rw [hns1]; rfl
            have hlt1 : decide (0 < ln) = true := decide_eq_true (by omega)
            have hq1 : (0 : Int) < (np : Int) := by omega
            have hq2 : (0 : Int) < (ns : Int) := by omega
            have hq3 : (0 : Int) < (ln : Int) := by omega
            have ha1 : ((a : Int) == (a : Int)) = true := by simp
            have Z1 := Lib.hid fun (y : Ext w13.heap.size w13) => AL.out y.val
            clear hvX2 hvY2 hvZ2 hvX3 hvY3 hvZ3 hcellX hcellY hcellZ hcX hcY hcZ p0 p1 p2 p3 p4 p5 r0 r1 r2 r3 r4 r5 eX eY eZ
            go_upto_region 27 with fail
            refine wp_region_ext w13.heap.size (by kernel_rfl) (by kernel_rfl) ?_
            repeat (go_big_quiet_step ((go_at_call 25; with_reducible exact ext_call _ (Nat.le_refl _) (Z1.out _))))
            refine wpQuiet_nil ?_
            rintro _ ⟨X, rfl⟩
            have hX := X.below
            generalize X.val = wx at hX
            have BX := Lib.hid (below_then B13.out hX)
            go_wp2_with fail
            go_ret
            exact ⟨rfl, BX.out⟩

end Go.Proofs.Ytienlhnbmobinaa
