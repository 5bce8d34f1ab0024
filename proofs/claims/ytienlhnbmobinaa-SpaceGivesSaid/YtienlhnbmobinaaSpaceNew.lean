/- chapter 16: New -/
import Derived.Test.YtienlhnbmobinaaRows
import Derived.Test.YtienlhnbmobinaaSpaceHelp
import Derived.Test.YtienlhnbmobinaaSpaceRefNew
import Derived.Test.YtienlhnbmobinaaTextsMove
import Derived.Test.YtienlhnbmobinaaPgStore
import Derived.Test.YtienlhnbmobinaaSpaceNums
import Derived.Test.YtienlhnbmobinaaSpaceBit
import Derived.Test.YtienlhnbmobinaaSpacePlain
import Derived.Test.YtienlhnbmobinaaOpPlain
import Derived.Test.YtienlhnbmobinaaPlains
import Derived.Test.YtienlhnbmobinaaBase
import Derived.Test.YtienlhnbmobinaaTextsP
import Derived.WalkKit
import Derived.WalkLawsBesides
import Derived.WalkSpells
import Derived.LoopTactic
import Derived.WalkMore
import Derived.LoopN
import Derived.Laws.BitsAllLaws
import Derived.Laws.IdiomStrings
import Derived.BigQuiet
import Derived.Deep.QuietTactic
import Derived.Deep.DeepCutAuto
import Derived.Deep.RegionHeld3
import Derived.Deep.DrawnRows
import Derived.Lib.Hide
import Derived.Outline
import Derived.Deep.DeepMust
import Derived.Handy
namespace Go.Proofs.Ytienlhnbmobinaa
open Go.RowKit
set_option linter.unusedVariables false
set_option linter.unusedSimpArgs false

theorem own_one32 {base : Nat} (w : World) (x : Nat) (hb : base ≤ w.heap.size) : (w.alloc (.cells #[.int .u32 (x : Int)] 22)).ownsRow base 22 1 (.slice (some ⟨w.heap.size, 0, none⟩) 1 1) 1 (n32 [x]) :=
  ⟨rfl, .inr ⟨w.heap.size, 1, _, rfl, hb, heap_alloc_new w _, Nat.le_refl _, by unfold maxLen; omega, rfl, rfl⟩⟩
theorem zeros_row (w : World) (t : TypeId) : RowAt (w.alloc (.cells (Array.replicate 128 (.int .u8 0)) t)) w.heap.size (List.replicate 128 0) := by
  refine ⟨_, t, 0, 0, heap_alloc_new w _, by simp, .inr rfl, fun j hj => ?_⟩
  have h2 : j < 128 := by simpa using hj
  rw [List.getElem_replicate]
  simp [h2]
theorem zero_cells : Try.zeroCells118 = Array.replicate 128 (.int .u8 0) := by kernel_rfl
set_option maxHeartbeats 4000000 in
set_option maxRecDepth 100000 in
theorem spaceNew_any (id : Nat) (pages : Int) (tv : Value) (ts : List Nat) (w : World) (hid : id < 256 ^ 4) (hpg : -9223372036854775808 ≤ pages ∧ pages ≤ 9223372036854775807) (ht : N32At w tv ts) (hts : ∀ t ∈ ts, t < 256 ^ 4) (hn9 : ts.length ≤ 1000000) :
    Calls Try.prog 26 #[.int .u32 id, .int .i64 pages, tv] w (PgPost w (newB id pages ts)) := by
  have P0 := Lib.hid (PgBox.zero w)
  have B0 := Lib.hid (alloc_below w (.cells #[.int .u8 0, .int .u8 0, .int .u32 0, .int .u64 0, .int .u32 0, .slice none 0 0] 26))
  have HT := Lib.hid ht
  have PL := Lib.hid fun n W (h1 : 1 ≤ n) (h2 : n ≤ 1024) => place_any n W h1 h2
  obtain ⟨n, hn⟩ : ∃ n, n = ts.length := ⟨_, rfl⟩
  obtain ⟨A, cp, htv, k2, k3, k4, k5⟩ := ht
  rw [← hn] at htv k2 hn9
  subst htv
  unfold maxLen at k3
  have HN := Lib.hid hn
  have HTS := Lib.hid hts
  clear k4 k5 hn hts
  obtain ⟨i0, hif, hz0, hz1, hz2⟩ := info_parts Try.infoU32
  have HI := Lib.hid hif
  have HI0 := Lib.hid hz0
  have HI1 := Lib.hid hz1
  have HI2 := Lib.hid hz2
  clear hif hz0 hz1 hz2
  obtain ⟨R, hR⟩ : ∃ R, R = newB id pages ts := ⟨_, rfl⟩
  rw [← hR]
  have HR0 := Lib.hid hR
  clear hR
  by_cases hp1 : 1 ≤ pages
  case neg =>
    have HR : Hid (R = (Pg.zero, 2)) := by show _ = _; rw [HR0.out]; exact newB_no fun h => hp1 h.1
    have q1 : decide (pages < 1) = true := decide_eq_true (by omega)
    go_enter Try.func26, Try.ntmps26
    go_upto_region 1 with fail
    generalize w.alloc (.cells #[.int .u8 0, .int .u8 0, .int .u32 0, .int .u64 0, .int .u32 0, .slice none 0 0] 26) = w0 at *
    go_wp2_with (refine wpList_store_pg rfl (.tmp 6) (.tmp 22) rfl P0.out 0 0 0 0 0 none 0 0 (by rfl) (by rfl) ?_; intro wS hP hK; have PS := Lib.hid hP; have KS := Lib.hid hK; clear hP hK)
    refine bodyPost_ret (results_pg (p := 6) (u := 7) (by kernel_rfl) _ _ rfl PS.out) rfl ?_
    exact PgPost.no HR.out (OthersKept.below B0.out KS.out (fun k hk e => by omega))
  have q1 : decide (pages < 1) = false := decide_eq_false (by omega)
  by_cases hp2 : pages ≤ 1024
  case neg =>
    have HR : Hid (R = (Pg.zero, 2)) := by show _ = _; rw [HR0.out]; exact newB_no fun h => hp2 h.2.1
    have q2 : decide ((1024 : Int) < pages) = true := decide_eq_true (by omega)
    go_enter Try.func26, Try.ntmps26
    go_upto_region 1 with fail
    generalize w.alloc (.cells #[.int .u8 0, .int .u8 0, .int .u32 0, .int .u64 0, .int .u32 0, .slice none 0 0] 26) = w0 at *
    go_wp2_with (refine wpList_store_pg rfl (.tmp 6) (.tmp 22) rfl P0.out 0 0 0 0 0 none 0 0 (by rfl) (by rfl) ?_; intro wS hP hK; have PS := Lib.hid hP; have KS := Lib.hid hK; clear hP hK)
    refine bodyPost_ret (results_pg (p := 6) (u := 7) (by kernel_rfl) _ _ rfl PS.out) rfl ?_
    exact PgPost.no HR.out (OthersKept.below B0.out KS.out (fun k hk e => by omega))
  have q2 : decide ((1024 : Int) < pages) = false := decide_eq_false (by omega)
  obtain ⟨pg, rfl⟩ : ∃ pg : Nat, pages = (pg : Int) := ⟨pages.toNat, by omega⟩
  clear hpg
  go_enter Try.func26, Try.ntmps26
  go_upto_region 1 with fail
  generalize w.alloc (.cells #[.int .u8 0, .int .u8 0, .int .u32 0, .int .u64 0, .int .u32 0, .slice none 0 0] 26) = w0 at *
  go_upto_region 4 with fail
  rw [zero_cells]
  have ROW := Lib.hid (zeros_row w0 118)
  obtain ⟨gz, hgz⟩ : ∃ g, g = w0.heap.size := ⟨_, rfl⟩
  have hb1 := alloc_below w0 (.cells (Array.replicate 128 (.int .u8 0)) 118)
  have B1 := Lib.hid (below_then B0.out hb1)
  have P1 := Lib.hid (P0.out.below hb1)
  have hgp : w.heap.size < gz := by have := P0.out.lt; omega
  rw [← hgz] at ROW ⊢
  have hgl : gz < (w0.alloc (.cells (Array.replicate 128 (.int .u8 0)) 118)).heap.size := by rw [World.size_alloc]; omega
  generalize w0.alloc (.cells (Array.replicate 128 (.int .u8 0)) 118) = w1 at *
  obtain ⟨z0, hz0⟩ : ∃ z, z = List.replicate 128 (0 : UInt8) := ⟨_, rfl⟩
  rw [← hz0] at ROW
  have HZ0 := Lib.hid hz0
  have HZL := Lib.hid (show z0.length = 128 by rw [hz0]; simp)
  clear hb1 hgz hz0 P0 B0
  have TR := Lib.hid (HT.out.below (below_then B1.out (alloc_below w1 (.cells #[.int .u32 id] 22)))).reads
  rw [← HN.out] at TR
  have O1 := Lib.hid (own_one32 (base := w1.heap.size) w1 id (Nat.le_refl _))
  have hs2 : w1.heap.size ≤ (w1.alloc (.cells #[.int .u32 id] 22)).heap.size := by rw [World.size_alloc]; omega
  go_wp2_with (at_builtin; refine wpList_append_any _ rfl _ _ 55 rfl w1.heap.size 22 i0 (.int .u32 0) 1 4 Try.underlying55 HI.out HI0.out HI1.out HI2.out rfl (by decide) _ 1 _ (by rfl) O1.out (.slice A n cp) n (n32 ts) (by rfl) TR.out (n32_oneCell _) (by unfold maxLen; omega) (by omega) hs2 ?_; intro v7 w7 hown7 hgrow7; rw [← n32_append] at hown7; obtain ⟨rb, rc, hv7, hrn, hrc, hrb⟩ := own_form hown7; subst hv7; have HO := Lib.hid hown7; have HG := Lib.hid hgrow7; clear hown7 hgrow7)
  have OFR := Lib.hid fun (k : Nat) (hk : k < w1.heap.size) => (HG.out.block k (by omega) (by simp [Value.ownBlock]; omega)).trans ((alloc_below w1 (.cells #[.int .u32 id] 22)).block k hk)
  have hb7 := (alloc_below w1 (.cells #[.int .u32 id] 22)).grown HG.out hs2 (fun k hk => by have := (O1.out.lt k hk).1; omega)
  have B7 := Lib.hid (below_then B1.out hb7)
  have P7 := Lib.hid (P1.out.below hb7)
  have ROW7 := Lib.hid (ROW.out.below hb7)
  obtain ⟨go, rfl, hgo⟩ := hrb (by omega)
  have hgoz : gz < go := by omega
  obtain ⟨XS, hXS⟩ : ∃ X, X = id :: ts := ⟨_, rfl⟩
  have HO : Hid (w7.ownsRow w1.heap.size 22 1 (.slice (some ⟨go, 0, none⟩) (1 + n) rc) (1 + n) (n32 XS)) := by rw [hXS]; exact HO
  obtain ⟨m, hm⟩ : ∃ m, m = 1 + n := ⟨_, rfl⟩
  have hmi : (1 : Int) + (n : Int) = (m : Int) := by omega
  rw [← hm] at HO hrn
  have hXL := Lib.hid (show XS.length = m by rw [hXS, List.length_cons, ← HN.out]; omega)
  have HXS := Lib.hid hXS
  have HX4 : Hid (∀ t ∈ XS, t < 256 ^ 4) := Lib.hid (by
    intro t ht
    rw [hXS] at ht
    rcases List.mem_cons.1 ht with h | h
    · rw [h]; exact hid
    · exact HTS.out _ h)
  unfold maxLen at hrc
  have hm9 : m ≤ 1000001 := by omega
  clear hb7 B1 P1 ROW TR O1 HG OFR hs2 hXS hgl
  go_upto_region 5 with fail
  rw [hmi]
  try rw [← hm]
  clear hm hmi hrb
  have E0 := Lib.hid (OthersKept.of_below (p := fun k => k = gz) (Below.refl w7.heap.size w7))
  go_loopw [28] (fun s28 wr => ∃ i : Nat, i ≤ m ∧ s28 = .int .i64 i ∧ Hid (∀ t ∈ XS.take i, 1 ≤ t ∧ t ≤ pg) ∧ Hid (RowAt wr gz (markAll z0 (XS.take i))) ∧ Hid (OthersKept w7 wr (fun k => k = gz))) (fun v _ => m - (intOf v).toNat)
  case atStart => exact ⟨0, Nat.zero_le _, rfl, Lib.hid (fun t h => by simp at h), ROW7, E0⟩
  case round =>
    obtain ⟨i, hi, rfl, OK, RW, KW⟩ := hrel
    clear E0 ROW7
    have ML := Lib.hid (show (markAll z0 (XS.take i)).length = 128 by rw [markAll_length]; exact HZL.out)
    by_cases hc : i < m
    · have hci : (i : Int) < (m : Int) := by omega
      have q0 : (0 : Int) ≤ (i : Int) := by omega
      have hil : i < XS.length := by rw [hXL.out]; exact hc
      have OW := Lib.hid (KW.out.owns HO.out (fun k hk e => by simp [Value.ownBlock] at hk; omega))
      have c0 := own_cell OW.out i _ (n32_get XS i hil)
      have MT := Lib.hid (markAll_take z0 XS i hil)
      have TK := Lib.hid (show XS.take (i + 1) = XS.take i ++ [XS[i]] from List.take_succ_eq_append_getElem hil)
      have HME := Lib.hid (List.getElem_mem hil)
      have hx4 := HX4.out _ (List.getElem_mem hil)
      have HP := Lib.hid (P7.out.kept KW.out (by omega))
      have HBE := Lib.hid (OthersKept.below B7.out KW.out (fun k hk e => by omega))
      generalize XS[i] = x at *
      by_cases hx1 : 1 ≤ x
      case neg =>
        have HR : Hid (R = (Pg.zero, 2)) := by show _ = _; rw [HR0.out]; exact newB_no fun h => hx1 (h.2.2 x (by rw [← HXS.out]; exact HME.out)).1
        have r1 : decide ((x : Int) < 1) = true := decide_eq_true (by omega)
        go_wp2_with (refine wpList_store_pg rfl (.tmp 6) (.tmp 40) rfl HP.out 0 0 0 0 0 none 0 0 (by rfl) (by rfl) ?_; intro wS hP hK; have PS := Lib.hid hP; have KS := Lib.hid hK; clear hP hK)
        refine bodyPost_ret (results_pg (p := 6) (u := 7) (by kernel_rfl) _ _ rfl PS.out) rfl ?_
        exact PgPost.no HR.out (OthersKept.below HBE.out KS.out (fun k hk e => by omega))
      have r1 : decide ((x : Int) < 1) = false := decide_eq_false (by omega)
      by_cases hx2 : x ≤ pg
      case neg =>
        have HR : Hid (R = (Pg.zero, 2)) := by show _ = _; rw [HR0.out]; exact newB_no fun h => hx2 (by have := (h.2.2 x (by rw [← HXS.out]; exact HME.out)).2; omega)
        have r2 : decide ((pg : Int) < (x : Int)) = true := decide_eq_true (by omega)
        go_wp2_with (refine wpList_store_pg rfl (.tmp 6) (.tmp 40) rfl HP.out 0 0 0 0 0 none 0 0 (by rfl) (by rfl) ?_; intro wS hP hK; have PS := Lib.hid hP; have KS := Lib.hid hK; clear hP hK)
        refine bodyPost_ret (results_pg (p := 6) (u := 7) (by kernel_rfl) _ _ rfl PS.out) rfl ?_
        exact PgPost.no HR.out (OthersKept.below HBE.out KS.out (fun k hk e => by omega))
      have r2 : decide ((pg : Int) < (x : Int)) = false := decide_eq_false (by omega)
      have hx9 : x ≤ 1024 := by omega
      have OK2 : Hid (∀ t ∈ XS.take (i + 1), 1 ≤ t ∧ t ≤ pg) := Lib.hid (by
        intro t h
        rw [TK.out] at h
        rcases List.mem_append.1 h with h | h
        · exact OK.out t h
        · rw [List.mem_singleton.1 h]; exact ⟨hx1, hx2⟩)
      clear OK TK HME HP HBE
      obtain ⟨d, j, hd, hj, hj8, hd8, hdn⟩ := num_k hx1 hx9
      have PLX := Lib.hid fun W => PL.out x W hx1 hx9
      rw [← hd, ← hj] at PLX
      have SA := setAt_true (markAll z0 (XS.take i)) (x - 1) (by rw [ML.out]; omega)
      rw [← hd, ← hj] at SA
      have hgd : (markAll z0 (XS.take i))[d]'(by rw [ML.out]; exact hd8) = (markAll z0 (XS.take i)).getD d 0 := by simp [List.getD_eq_getElem?_getD, show d < (markAll z0 (XS.take i)).length by rw [ML.out]; exact hd8]
      have c1 := RW.out.cell d (by rw [ML.out]; exact hd8)
      have f1 := RW.out.frozen d (by rw [ML.out]; exact hd8)
      rw [hgd] at c1
      have RS := Lib.hid (RW.out.set d (mark8 ((markAll z0 (XS.take i)).getD d 0) j) (by rw [ML.out]; exact hd8))
      rw [← SA, ← MT.out] at RS
      have KS := Lib.hid (KW.out.trans (one_kept wr gz d (.int .u8 ((mark8 ((markAll z0 (XS.take i)).getD d 0) j).toNat : Int))) (fun _ _ h => h))
      generalize (markAll z0 (XS.take i)).getD d 0 = y at *
      have eO := or_bit y j hj8
      have i1 : (0 : Int) ≤ (d : Int) := by omega
      have i2 : (d : Int) < 128 := by omega
      clear SA hgd hd hj hdn MT
      go_wp2_with fail
      refine (PLX.out _).mono ?_
      rintro e w' ⟨rfl, rfl⟩
      go_wp2_with fail
      exact ⟨⟨i + 1, by omega, by go_num, OK2, RS, KS⟩, by simp [intOf]; omega⟩
    · have hci : ¬ (i : Int) < (m : Int) := by omega
      have hin : i = m := by omega
      have TF := Lib.hid (show XS.take i = XS from List.take_of_length_le (by rw [hXL.out]; omega))
      rw [TF.out] at OK ML RW
      have HOK : Hid (newOk id (pg : Int) ts) := Lib.hid ⟨hp1, hp2, fun t h => by
        have := OK.out t (by rw [HXS.out]; exact h)
        exact ⟨this.1, by omega⟩⟩
      obtain ⟨ra, hra⟩ : ∃ r, r = markAll z0 XS := ⟨_, rfl⟩
      rw [← hra] at ML RW
      have HR : Hid (R = (⟨4, 0, id, 0, 0, [markAll ra (tailL pg (1024 - pg))]⟩, 0)) := by
        show _ = _
        rw [HR0.out, newB_yes HOK.out, hra, HXS.out, HZ0.out]
        rfl
      have hpg24 : pg ≤ 1024 := by omega
      have ML9 := ML
      clear TF hra hin OK HOK HXS HX4 hXL HO HT HN HTS HZ0 HZL HR0 ML
      go_wp2_with fail
      go_loopw [13] (fun s13 wx => ∃ k : Nat, pg + 1 ≤ k ∧ k ≤ 1025 ∧ s13 = .int .u32 k ∧ Hid (RowAt wx gz (markAll ra (tailL pg (k - (pg + 1))))) ∧ Hid (OthersKept w7 wx (fun k => k = gz))) (fun v _ => 1025 - (intOf v).toNat)
      case atStart => exact ⟨pg + 1, Nat.le_refl _, by omega, by go_num, Lib.hid (by rw [Nat.sub_self]; exact RW.out), KW⟩
      case round =>
      obtain ⟨k, hk1, hk2, rfl, RW2, KW2⟩ := hrel
      clear RW KW
      have RW := RW2
      have KW := KW2
      have ML := Lib.hid (show (markAll ra (tailL pg (k - (pg + 1)))).length = 128 by rw [markAll_length]; exact ML9.out)
      by_cases hx9 : k ≤ 1024
      case neg =>
        obtain rfl : k = 1025 := by omega
        have hke : 1025 - (pg + 1) = 1024 - pg := by omega
        rw [hke] at RW ML
        obtain ⟨rz, hrz⟩ : ∃ r, r = markAll ra (tailL pg (1024 - pg)) := ⟨_, rfl⟩
        rw [← hrz] at HR RW ML
        have HP := Lib.hid (P7.out.kept KW.out (by omega))
        have HBE := Lib.hid (OthersKept.below B7.out KW.out (fun k hk e => by omega))
        clear hrz hke KW2 RW2
        go_wp2_with fail
        refine upon_str RW.out ML.out 70 5 9 Try.underlying70 Try.underlying5 Try.underlying9 ?_
        rw [mapBytes]
        have P9 := Lib.hid (HP.out.keep (.cells #[.string ⟨rz.toArray⟩] 9))
        have B9 := Lib.hid (HBE.out.alloc HBE.out.size (.cells #[.string ⟨rz.toArray⟩] 9))
        have T9 := Lib.hid (texts_one wr rz)
        obtain ⟨gr, hgr⟩ : ∃ g, g = wr.heap.size := ⟨_, rfl⟩
        rw [← hgr] at T9
        have HGR := Lib.hid hgr
        clear hgr HP HBE
        go_wp2_with (refine wpList_store_pg rfl (.tmp 6) (.tmp 75) rfl P9.out 4 0 id 0 0 (some ⟨gr, 0, none⟩) 1 1 (by rfl) (by rw [HGR.out]; rfl) ?_; intro wS hP hK; have PS := Lib.hid hP; have KS := Lib.hid hK; clear hP hK)
        refine bodyPost_ret (results_pg (p := 6) (u := 7) (by kernel_rfl) _ _ rfl PS.out) rfl ?_
        rw [HR.out]
        exact ⟨_, rfl, TextsAt.off_pg T9.out P9.out (fun x e => by cases e) KS.out, OthersKept.below B9.out KS.out (fun k hk e => by omega)⟩
      have hki : (k : Int) ≤ 1024 := by omega
      have hx1 : 1 ≤ k := by omega
      have MT : Hid (markAll ra (tailL pg (k + 1 - (pg + 1))) = setAt (markAll ra (tailL pg (k - (pg + 1)))) (k - 1) true) := by
        show _ = _
        rw [show k + 1 - (pg + 1) = (k - (pg + 1)) + 1 by omega, tail_succ, markAll_append, markAll_one]
        rw [show k - (pg + 1) + (pg + 1) = k by omega]
      obtain ⟨d, j, hd, hj, hj8, hd8, hdn⟩ := num_k hx1 hx9
      have PLX := Lib.hid fun W => PL.out k W hx1 hx9
      rw [← hd, ← hj] at PLX
      have SA := setAt_true (markAll ra (tailL pg (k - (pg + 1)))) (k - 1) (by rw [ML.out]; omega)
      rw [← hd, ← hj] at SA
      have hgd : (markAll ra (tailL pg (k - (pg + 1))))[d]'(by rw [ML.out]; exact hd8) = (markAll ra (tailL pg (k - (pg + 1)))).getD d 0 := by simp [List.getD_eq_getElem?_getD, show d < (markAll ra (tailL pg (k - (pg + 1)))).length by rw [ML.out]; exact hd8]
      have c1 := RW.out.cell d (by rw [ML.out]; exact hd8)
      have f1 := RW.out.frozen d (by rw [ML.out]; exact hd8)
      rw [hgd] at c1
      have RS := Lib.hid (RW.out.set d (mark8 ((markAll ra (tailL pg (k - (pg + 1)))).getD d 0) j) (by rw [ML.out]; exact hd8))
      rw [← SA, ← MT.out] at RS
      have KS := Lib.hid (KW.out.trans (one_kept wr gz d (.int .u8 ((mark8 ((markAll ra (tailL pg (k - (pg + 1)))).getD d 0) j).toNat : Int))) (fun _ _ h => h))
      generalize (markAll ra (tailL pg (k - (pg + 1)))).getD d 0 = y at *
      have eO := or_bit y j hj8
      have i1 : (0 : Int) ≤ (d : Int) := by omega
      have i2 : (d : Int) < 128 := by omega
      clear SA hgd hd hj hdn MT
      go_wp2_with fail
      refine (PLX.out _).mono ?_
      rintro e w' ⟨rfl, rfl⟩
      go_wp2_with fail
      exact ⟨⟨k + 1, by omega, by omega, by go_num, RS, KS⟩, by simp [intOf]; omega⟩

end Go.Proofs.Ytienlhnbmobinaa
