/- chapter 16: the reference's New -/
import Derived.Test.YtienlhnbmobinaaRows
import Derived.Test.YtienlhnbmobinaaPgStore
import Derived.Test.YtienlhnbmobinaaSpaceNums
import Derived.Test.YtienlhnbmobinaaSpaceFree
import Derived.Test.YtienlhnbmobinaaSpaceCheck
import Derived.Test.YtienlhnbmobinaaSpaceBit
import Derived.Test.YtienlhnbmobinaaSpacePlain
import Derived.Test.YtienlhnbmobinaaOpPlain
import Derived.Test.YtienlhnbmobinaaPlains
import Derived.Test.YtienlhnbmobinaaBase
import Derived.Test.YtienlhnbmobinaaTextsP
import Derived.WalkKit
import Derived.WalkLawsBesides
import Derived.WalkSpells
import Derived.LoopTactic
import Derived.WalkMore
import Derived.LoopN
import Derived.Laws.BitsAllLaws
import Derived.Laws.IdiomStrings
import Derived.BigQuiet
import Derived.Deep.QuietTactic
import Derived.Deep.DeepCutAuto
import Derived.Deep.RegionHeld3
import Derived.Deep.DrawnRows
import Derived.Lib.Hide
import Derived.Outline
import Derived.Deep.DeepMust
import Derived.Handy
namespace Go.Proofs.Ytienlhnbmobinaa
open Go.RowKit
set_option linter.unusedVariables false
set_option linter.unusedSimpArgs false

theorem TextsAt.off_pg {w w' : World} {g kind level id lsn next : Nat} {sv v : Value} {ts : List (List UInt8)} (h : TextsAt w v ts) (hp : PgBox w g kind level id lsn next sv) (hs : ∀ s, sv ≠ .string s) (hk : OthersKept w w' (fun k => k = g)) : TextsAt w' v ts := by
  obtain ⟨A, cp, h1, h2, h3, h4, h5⟩ := h
  refine ⟨A, cp, h1, h2, h3, h4, fun h0 => ?_⟩
  obtain ⟨b, o, h6, h7, h8⟩ := h5 h0
  have hne : b ≠ g := by
    intro e
    subst e
    have h9 := h8 0 h0
    rw [blk_cell hp] at h9
    have h10 : o + 0 < 6 := by
      have := (Array.getElem?_eq_some_iff.1 h9).1
      simpa using this
    obtain rfl | rfl | rfl | rfl | rfl | rfl : o = 0 ∨ o = 1 ∨ o = 2 ∨ o = 3 ∨ o = 4 ∨ o = 5 := by omega
    all_goals first
      | (simp at h9; done)
      | (simp at h9; exact hs _ h9)
  exact ⟨b, o, h6, Nat.lt_of_lt_of_le h7 hk.size, fun j hj => hk.cell (h8 j hj) hne⟩
theorem markAll_length (l : List Nat) : ∀ r : List UInt8, (markAll r l).length = r.length := by
  induction l with
  | nil => intro r; rfl
  | cons n l ih => intro r; show (markAll (setAt r (n - 1) true) l).length = _; rw [ih, setAt_length]
theorem markAll_append (r : List UInt8) (a b : List Nat) : markAll r (a ++ b) = markAll (markAll r a) b := by unfold markAll; rw [List.foldl_append]
theorem markAll_one (r : List UInt8) (n : Nat) : markAll r [n] = setAt r (n - 1) true := rfl
theorem markAll_take (r : List UInt8) (l : List Nat) (i : Nat) (h : i < l.length) : markAll r (l.take (i + 1)) = setAt (markAll r (l.take i)) (l[i] - 1) true := by
  rw [List.take_succ_eq_append_getElem h, markAll_append, markAll_one]
theorem tail_succ (pages k : Nat) : tailL pages (k + 1) = tailL pages k ++ [k + (pages + 1)] := by
  unfold tailL
  rw [List.range_succ, List.map_append]
  rfl
def newOk (id : Nat) (pages : Int) (ts : List Nat) : Prop := 1 ≤ pages ∧ pages ≤ 1024 ∧ ∀ n ∈ id :: ts, 1 ≤ n ∧ (n : Int) ≤ pages
theorem newB_no {id : Nat} {pages : Int} {ts : List Nat} (h : ¬ newOk id pages ts) : newB id pages ts = (Pg.zero, 2) := by unfold newB; unfold newOk at h; rw [if_neg h]
theorem newB_yes {id : Nat} {pages : Int} {ts : List Nat} (h : newOk id pages ts) : newB id pages ts = (⟨4, 0, id, 0, 0, [newRow id pages.toNat ts]⟩, 0) := by unfold newB; unfold newOk at h; rw [if_pos h]
theorem texts_one (w : World) (r : List UInt8) : TextsAt (w.alloc (.cells #[.string ⟨r.toArray⟩] 9)) (.slice (some ⟨w.heap.size, 0, none⟩) 1 1) [r] := by
  refine ⟨_, 1, rfl, Nat.le_refl _, by unfold maxLen; simp, (fun h => by cases h), fun _ => ⟨w.heap.size, 0, rfl, by rw [World.size_alloc]; omega, fun j hj => ?_⟩⟩
  have hj0 : j = 0 := by simpa using hj
  subst hj0
  exact blk_cell (heap_alloc_new w _) 0
theorem PgBox.zero (w : World) : PgBox (w.alloc (.cells #[.int .u8 0, .int .u8 0, .int .u32 0, .int .u64 0, .int .u32 0, .slice none 0 0] 26)) w.heap.size 0 0 0 0 0 (.slice none 0 0) := PgBox.new w 0 0 0 0 0 (.slice none 0 0)
set_option maxHeartbeats 4000000 in
set_option maxRecDepth 100000 in
theorem refNew_any (id : Nat) (pages : Int) (tv : Value) (ts : List Nat) (w : World) (hid : id < 256 ^ 4) (hpg : -9223372036854775808 ≤ pages ∧ pages ≤ 9223372036854775807) (ht : N32At w tv ts) (hts : ∀ t ∈ ts, t < 256 ^ 4) (hn9 : ts.length ≤ 1000000) :
    Calls Try.prog 32 #[.int .u32 id, .int .i64 pages, tv] w (PgPost w (newB id pages ts)) := by
  have P0 := Lib.hid (PgBox.zero w)
  have B0 := Lib.hid (alloc_below w (.cells #[.int .u8 0, .int .u8 0, .int .u32 0, .int .u64 0, .int .u32 0, .slice none 0 0] 26))
  have HT := Lib.hid ht
  have SET := Lib.hid fun l n W (hl : l.length = 128) (h1 : 1 ≤ n) (h2 : n ≤ 1024) => refSet_any l n true W hl h1 h2
  obtain ⟨n, hn⟩ : ∃ n, n = ts.length := ⟨_, rfl⟩
  obtain ⟨A, cp, htv, k2, k3, k4, k5⟩ := ht
  rw [← hn] at htv k2 hn9
  subst htv
  unfold maxLen at k3
  have HN := Lib.hid hn
  have HTS := Lib.hid hts
  clear k4 k5 hn hts
  obtain ⟨R, hR⟩ : ∃ R, R = newB id pages ts := ⟨_, rfl⟩
  rw [← hR]
  have HR0 := Lib.hid hR
  clear hR
  by_cases hp1 : 1 ≤ pages
  case neg =>
    have HR : Hid (R = (Pg.zero, 2)) := by show _ = _; rw [HR0.out]; exact newB_no fun h => hp1 h.1
    have q1 : decide (pages < 1) = true := decide_eq_true (by omega)
    go_enter Try.func32, Try.ntmps32
    go_upto_region 1 with fail
    generalize w.alloc (.cells #[.int .u8 0, .int .u8 0, .int .u32 0, .int .u64 0, .int .u32 0, .slice none 0 0] 26) = w0 at *
    go_wp2_with (refine wpList_store_pg rfl (.tmp 6) (.tmp 28) rfl P0.out 0 0 0 0 0 none 0 0 (by rfl) (by rfl) ?_; intro wS hP hK; have PS := Lib.hid hP; have KS := Lib.hid hK; clear hP hK)
    refine bodyPost_ret (results_pg (p := 6) (u := 7) (by kernel_rfl) _ _ rfl PS.out) rfl ?_
    exact PgPost.no HR.out (OthersKept.below B0.out KS.out (fun k hk e => by omega))
  have q1 : decide (pages < 1) = false := decide_eq_false (by omega)
  by_cases hp2 : pages ≤ 1024
  case neg =>
    have HR : Hid (R = (Pg.zero, 2)) := by show _ = _; rw [HR0.out]; exact newB_no fun h => hp2 h.2.1
    have q2 : decide ((1024 : Int) < pages) = true := decide_eq_true (by omega)
    go_enter Try.func32, Try.ntmps32
    go_upto_region 1 with fail
    generalize w.alloc (.cells #[.int .u8 0, .int .u8 0, .int .u32 0, .int .u64 0, .int .u32 0, .slice none 0 0] 26) = w0 at *
    go_wp2_with (refine wpList_store_pg rfl (.tmp 6) (.tmp 28) rfl P0.out 0 0 0 0 0 none 0 0 (by rfl) (by rfl) ?_; intro wS hP hK; have PS := Lib.hid hP; have KS := Lib.hid hK; clear hP hK)
    refine bodyPost_ret (results_pg (p := 6) (u := 7) (by kernel_rfl) _ _ rfl PS.out) rfl ?_
    exact PgPost.no HR.out (OthersKept.below B0.out KS.out (fun k hk e => by omega))
  have q2 : decide ((1024 : Int) < pages) = false := decide_eq_false (by omega)
  obtain ⟨pg, rfl⟩ : ∃ pg : Nat, pages = (pg : Int) := ⟨pages.toNat, by omega⟩
  by_cases hi1 : 1 ≤ id
  case neg =>
    have HR : Hid (R = (Pg.zero, 2)) := by show _ = _; rw [HR0.out]; exact newB_no fun h => hi1 (h.2.2 id (by simp)).1
    have q3 : decide ((id : Int) < 1) = true := decide_eq_true (by omega)
    go_enter Try.func32, Try.ntmps32
    go_upto_region 1 with fail
    generalize w.alloc (.cells #[.int .u8 0, .int .u8 0, .int .u32 0, .int .u64 0, .int .u32 0, .slice none 0 0] 26) = w0 at *
    go_wp2_with (refine wpList_store_pg rfl (.tmp 6) (.tmp 28) rfl P0.out 0 0 0 0 0 none 0 0 (by rfl) (by rfl) ?_; intro wS hP hK; have PS := Lib.hid hP; have KS := Lib.hid hK; clear hP hK)
    refine bodyPost_ret (results_pg (p := 6) (u := 7) (by kernel_rfl) _ _ rfl PS.out) rfl ?_
    exact PgPost.no HR.out (OthersKept.below B0.out KS.out (fun k hk e => by omega))
  have q3 : decide ((id : Int) < 1) = false := decide_eq_false (by omega)
  by_cases hi2 : id ≤ pg
  case neg =>
    have HR : Hid (R = (Pg.zero, 2)) := by show _ = _; rw [HR0.out]; exact newB_no fun h => hi2 (by have := (h.2.2 id (by simp)).2; omega)
    have q4 : decide ((pg : Int) < (id : Int)) = true := decide_eq_true (by omega)
    go_enter Try.func32, Try.ntmps32
    go_upto_region 1 with fail
    generalize w.alloc (.cells #[.int .u8 0, .int .u8 0, .int .u32 0, .int .u64 0, .int .u32 0, .slice none 0 0] 26) = w0 at *
    go_wp2_with (refine wpList_store_pg rfl (.tmp 6) (.tmp 28) rfl P0.out 0 0 0 0 0 none 0 0 (by rfl) (by rfl) ?_; intro wS hP hK; have PS := Lib.hid hP; have KS := Lib.hid hK; clear hP hK)
    refine bodyPost_ret (results_pg (p := 6) (u := 7) (by kernel_rfl) _ _ rfl PS.out) rfl ?_
    exact PgPost.no HR.out (OthersKept.below B0.out KS.out (fun k hk e => by omega))
  have q4 : decide ((pg : Int) < (id : Int)) = false := decide_eq_false (by omega)
  obtain ⟨z0, hz0⟩ : ∃ z, z = setAt (List.replicate 128 0) (id - 1) true := ⟨_, rfl⟩
  have hz1 : z0.length = 128 := by rw [hz0, setAt_length]; simp
  have HZ1 := Lib.hid hz1
  have HZ0 := Lib.hid hz0
  clear hz0 hz1 hpg
  go_enter Try.func32, Try.ntmps32
  go_upto_region 1 with fail
  generalize w.alloc (.cells #[.int .u8 0, .int .u8 0, .int .u32 0, .int .u64 0, .int .u32 0, .slice none 0 0] 26) = w0 at *
  go_wp2_with fail
  refine upon_make _ 70 5 128 Try.underlying70 (by kernel_rfl) (by kernel_rfl) (by kernel_rfl) (by omega) (fun w1 hrow hb1 => ?_)
  have ROW := Lib.hid hrow
  obtain ⟨gz, hgz⟩ : ∃ g, g = w0.heap.size := ⟨_, rfl⟩
  rw [← hgz] at ROW ⊢
  have B1 := Lib.hid (below_then B0.out hb1)
  have P1 := Lib.hid (P0.out.below hb1)
  have SET1 := Lib.hid (SET.out (List.replicate 128 0) id w1 (by simp) hi1 (by omega))
  rw [← HZ0.out] at SET1
  obtain ⟨zz, hzz⟩ : ∃ z, z = List.replicate 128 (0 : UInt8) := ⟨_, rfl⟩
  rw [← hzz] at SET1 ROW
  have hzl := Lib.hid (show zz.length = 128 by rw [hzz]; simp)
  clear hrow hb1 hgz P0 B0 hzz
  go_wp2_with fail
  refine upon_str ROW.out hzl.out 70 5 9 Try.underlying70 Try.underlying5 Try.underlying9 ?_
  rw [mapBytes]
  go_wp2_with fail
  refine SET1.out.mono ?_
  rintro e w2 ⟨rfl, hb⟩
  have B2 := Lib.hid (below_then B1.out hb)
  have P2 := Lib.hid (P1.out.below hb)
  clear hb B1 P1 ROW SET1
  go_wp2_with fail
  go_loopw [8, 9] (fun s8 s9 wr => ∃ i : Nat, i ≤ n ∧ s9 = .int .i64 i ∧ s8 = .string ⟨(markAll z0 (ts.take i)).toArray⟩ ∧ Hid (∀ t ∈ ts.take i, 1 ≤ t ∧ t ≤ pg) ∧ Hid (Below w.heap.size w wr) ∧ Hid (PgBox wr w.heap.size 0 0 0 0 0 (.slice none 0 0))) (fun _ v _ => n - (intOf v).toNat)
  case atStart => exact ⟨0, Nat.zero_le _, rfl, rfl, Lib.hid (fun t h => by simp at h), B2, P2⟩
  case round =>
    obtain ⟨i, hi, rfl, rfl, OK, HB, HP⟩ := hrel
    clear B2 P2
    have ML := Lib.hid (show (markAll z0 (ts.take i)).length = 128 by rw [markAll_length]; exact HZ1.out)
    by_cases hc : i < n
    · have hci : (i : Int) < (n : Int) := by omega
      have q0 : (0 : Int) ≤ (i : Int) := by omega
      have hil : i < ts.length := by rw [← HN.out]; exact hc
      obtain ⟨_, _, hvv, _, _, _, hcc⟩ := (HT.out.below HB.out)
      obtain ⟨b, o, hA, hbl, hcell⟩ := hcc (by omega)
      cases hvv
      cases hA
      have c0 := hcell i hil
      have MT := Lib.hid (markAll_take z0 ts i hil)
      have HX := Lib.hid (HTS.out ts[i] (List.getElem_mem hil))
      have TK := Lib.hid (show ts.take (i + 1) = ts.take i ++ [ts[i]] from List.take_succ_eq_append_getElem hil)
      have HME := Lib.hid (List.getElem_mem hil)
      clear hcell hcc
      generalize ts[i] = x at *
      have hx4 := HX.out
      by_cases hx1 : 1 ≤ x
      case neg =>
        have HR : Hid (R = (Pg.zero, 2)) := by show _ = _; rw [HR0.out]; exact newB_no fun h => hx1 (h.2.2 x (List.mem_cons_of_mem _ HME.out)).1
        have r1 : decide ((x : Int) < 1) = true := decide_eq_true (by omega)
        go_wp2_with (refine wpList_store_pg rfl (.tmp 6) (.tmp 54) rfl HP.out 0 0 0 0 0 none 0 0 (by rfl) (by rfl) ?_; intro wS hP hK; have PS := Lib.hid hP; have KS := Lib.hid hK; clear hP hK)
        refine bodyPost_ret (results_pg (p := 6) (u := 7) (by kernel_rfl) _ _ rfl PS.out) rfl ?_
        exact PgPost.no HR.out (OthersKept.below HB.out KS.out (fun k hk e => by omega))
      have r1 : decide ((x : Int) < 1) = false := decide_eq_false (by omega)
      by_cases hx2 : x ≤ pg
      case neg =>
        have HR : Hid (R = (Pg.zero, 2)) := by show _ = _; rw [HR0.out]; exact newB_no fun h => hx2 (by have := (h.2.2 x (List.mem_cons_of_mem _ HME.out)).2; omega)
        have r2 : decide ((pg : Int) < (x : Int)) = true := decide_eq_true (by omega)
        go_wp2_with (refine wpList_store_pg rfl (.tmp 6) (.tmp 54) rfl HP.out 0 0 0 0 0 none 0 0 (by rfl) (by rfl) ?_; intro wS hP hK; have PS := Lib.hid hP; have KS := Lib.hid hK; clear hP hK)
        refine bodyPost_ret (results_pg (p := 6) (u := 7) (by kernel_rfl) _ _ rfl PS.out) rfl ?_
        exact PgPost.no HR.out (OthersKept.below HB.out KS.out (fun k hk e => by omega))
      have r2 : decide ((pg : Int) < (x : Int)) = false := decide_eq_false (by omega)
      have SETX := Lib.hid fun W => SET.out (markAll z0 (ts.take i)) x W ML.out hx1 (by omega)
      rw [← MT.out] at SETX
      have OK2 : Hid (∀ t ∈ ts.take (i + 1), 1 ≤ t ∧ t ≤ pg) := Lib.hid (by
        intro t h
        rw [TK.out] at h
        rcases List.mem_append.1 h with h | h
        · exact OK.out t h
        · rw [List.mem_singleton.1 h]; exact ⟨hx1, hx2⟩)
      clear MT TK OK HX HME hx4 ML
      generalize markAll z0 (ts.take i) = ra at *
      obtain ⟨rb, hrb⟩ : ∃ r, r = markAll z0 (ts.take (i + 1)) := ⟨_, rfl⟩
      rw [← hrb] at SETX
      have HRB := Lib.hid hrb
      clear hrb
      go_wp2_with fail
      refine (SETX.out _).mono ?_
      rintro e w4 ⟨rfl, hb⟩
      have B4 := Lib.hid (below_then HB.out hb)
      have P4 := Lib.hid (HP.out.below hb)
      clear hb HB HP SETX c0
      go_wp2_with fail
      exact ⟨⟨i + 1, by omega, by go_num, by rw [← HRB.out], OK2, B4, P4⟩, by simp [intOf]; omega⟩
    · have hci : ¬ (i : Int) < (n : Int) := by omega
      have hin : i = n := by omega
      subst hin
      have TF := Lib.hid (show ts.take i = ts from List.take_of_length_le (by rw [HN.out]; exact Nat.le_refl _))
      rw [TF.out] at OK ML ⊢
      obtain ⟨ra, hra⟩ : ∃ r, r = markAll z0 ts := ⟨_, rfl⟩
      rw [← hra] at ML ⊢
      have HRA := Lib.hid hra
      clear TF hra
      have HOK : Hid (newOk id (pg : Int) ts) := Lib.hid ⟨hp1, hp2, fun t h => by
        rcases List.mem_cons.1 h with h | h
        · subst h; exact ⟨hi1, by omega⟩
        · have := OK.out t h; exact ⟨this.1, by omega⟩⟩
      have HR : Hid (R = (⟨4, 0, id, 0, 0, [markAll ra (tailL pg (1024 - pg))]⟩, 0)) := by
        show _ = _
        rw [HR0.out, newB_yes HOK.out, HRA.out, HZ0.out]
        rfl
      have hpg24 : pg ≤ 1024 := by omega
      clear HR0 HOK OK HZ0 HZ1 HRA HTS HT
      go_wp2_with fail
      go_loopw [8, 10] (fun s8 s10 wx => ∃ k : Nat, pg + 1 ≤ k ∧ k ≤ 1025 ∧ s10 = .int .u32 k ∧ s8 = .string ⟨(markAll ra (tailL pg (k - (pg + 1)))).toArray⟩ ∧ Hid (Below w.heap.size w wx) ∧ Hid (PgBox wx w.heap.size 0 0 0 0 0 (.slice none 0 0))) (fun _ v _ => 1025 - (intOf v).toNat)
      case atStart => exact ⟨pg + 1, Nat.le_refl _, by omega, by go_num, by rw [Nat.sub_self]; rfl, HB, HP⟩
      case round =>
        obtain ⟨k, hk1, hk2, rfl, rfl, HB2, HP2⟩ := hrel
        clear HB HP
        have ML2 := Lib.hid (show (markAll ra (tailL pg (k - (pg + 1)))).length = 128 by rw [markAll_length]; exact ML.out)
        by_cases hkc : k ≤ 1024
        · have hki : (k : Int) ≤ 1024 := by omega
          have MT : Hid (markAll ra (tailL pg (k + 1 - (pg + 1))) = setAt (markAll ra (tailL pg (k - (pg + 1)))) (k - 1) true) := by
            show _ = _
            rw [show k + 1 - (pg + 1) = (k - (pg + 1)) + 1 by omega, tail_succ, markAll_append, markAll_one]
            rw [show k - (pg + 1) + (pg + 1) = k by omega]
          have SETX := Lib.hid fun W => SET.out (markAll ra (tailL pg (k - (pg + 1)))) k W ML2.out (by omega) hkc
          rw [← MT.out] at SETX
          obtain ⟨rb, hrb⟩ : ∃ r, r = markAll ra (tailL pg (k + 1 - (pg + 1))) := ⟨_, rfl⟩
          rw [← hrb] at SETX
          have HRB := Lib.hid hrb
          clear hrb MT ML2
          generalize markAll ra (tailL pg (k - (pg + 1))) = rc at *
          go_wp2_with fail
          refine (SETX.out _).mono ?_
          rintro e w4 ⟨rfl, hb⟩
          have B4 := Lib.hid (below_then HB2.out hb)
          have P4 := Lib.hid (HP2.out.below hb)
          clear hb HB2 HP2 SETX
          go_wp2_with fail
          exact ⟨⟨k + 1, by omega, by omega, by go_num, by rw [← HRB.out], B4, P4⟩, by simp [intOf]; omega⟩
        · obtain rfl : k = 1025 := by omega
          have hke : 1025 - (pg + 1) = 1024 - pg := by omega
          rw [hke]
          obtain ⟨rz, hrz⟩ : ∃ r, r = markAll ra (tailL pg (1024 - pg)) := ⟨_, rfl⟩
          rw [← hrz] at HR ⊢
          clear hrz hke ML2
          have P9 := Lib.hid (HP2.out.keep (.cells #[.string ⟨rz.toArray⟩] 9))
          have B9 := Lib.hid (HB2.out.alloc HB2.out.size (.cells #[.string ⟨rz.toArray⟩] 9))
          have T9 := Lib.hid (texts_one wr rz)
          obtain ⟨gr, hgr⟩ : ∃ g, g = wr.heap.size := ⟨_, rfl⟩
          rw [← hgr] at T9
          have HGR := Lib.hid hgr
          clear hgr HB2 HP2
          go_wp2_with (refine wpList_store_pg rfl (.tmp 6) (.tmp 74) rfl P9.out 4 0 id 0 0 (some ⟨gr, 0, none⟩) 1 1 (by rfl) (by rw [HGR.out]; rfl) ?_; intro wS hP hK; have PS := Lib.hid hP; have KS := Lib.hid hK; clear hP hK)
          refine bodyPost_ret (results_pg (p := 6) (u := 7) (by kernel_rfl) _ _ rfl PS.out) rfl ?_
          rw [HR.out]
          exact ⟨_, rfl, TextsAt.off_pg T9.out P9.out (fun x e => by cases e) KS.out, OthersKept.below B9.out KS.out (fun k hk e => by omega)⟩

end Go.Proofs.Ytienlhnbmobinaa
