/- chapter 16: the walk of SpaceGives -/
import Derived.Test.YtienlhnbmobinaaRows
import Derived.Test.YtienlhnbmobinaaNatsIn
import Derived.Test.YtienlhnbmobinaaSpaceWorks
import Derived.Test.YtienlhnbmobinaaSpaceNew
import Derived.Test.YtienlhnbmobinaaSpaceRefNew
import Derived.Test.YtienlhnbmobinaaSpaceHelp
import Derived.Test.YtienlhnbmobinaaSpaceRef
import Derived.Test.YtienlhnbmobinaaSpaceIs
import Derived.Test.YtienlhnbmobinaaSpaceOp
import Derived.Test.YtienlhnbmobinaaSpaceNums
import Derived.Test.YtienlhnbmobinaaSpaceAll
import Derived.Test.YtienlhnbmobinaaSpaceFree
import Derived.Test.YtienlhnbmobinaaSpaceCheck
import Derived.Test.YtienlhnbmobinaaOpApply
import Derived.Test.YtienlhnbmobinaaOpDoes
import Derived.Test.YtienlhnbmobinaaOpLaw
import Derived.Test.YtienlhnbmobinaaOpWrite
import Derived.Test.YtienlhnbmobinaaOpSame
import Derived.Test.YtienlhnbmobinaaOpPart
import Derived.Test.YtienlhnbmobinaaSpacePlain
import Derived.Test.YtienlhnbmobinaaOpPlain
import Derived.Test.YtienlhnbmobinaaNodeWeigh
import Derived.Test.YtienlhnbmobinaaPgStore
import Derived.Test.YtienlhnbmobinaaTextsMove
import Derived.Test.YtienlhnbmobinaaPlains
import Derived.Test.YtienlhnbmobinaaBase
import Derived.Test.YtienlhnbmobinaaTextsP
import Derived.Deep.OwnRows
import Derived.Deep.CutBlock
import Derived.WalkKit
import Derived.WalkLawsBesides
import Derived.WalkSpells
import Derived.LoopTactic
import Derived.WalkMore
import Derived.LoopN
import Derived.Laws.BitsAllLaws
import Derived.Laws.IdiomStrings
import Derived.BigQuiet
import Derived.Deep.QuietTactic
import Derived.Deep.DeepCutAuto
import Derived.Deep.RegionHeld3
import Derived.Deep.DrawnRows
import Derived.Lib.Hide
import Derived.Outline
import Derived.Deep.DeepMust
import Derived.Handy
namespace Go.Proofs.Ytienlhnbmobinaa
open Go.RowKit
set_option linter.unusedVariables false
set_option linter.unusedSimpArgs false

def GiveI (n me : Nat) (tk : List Bool) (p : Pg) : Prop := mapB p = true ∧ p.wf ∧ p.id = me ∧ 1 ≤ me ∧ me ≤ n ∧ n ≤ 60 ∧ tk.length = n + 1 ∧ (∀ k, k < 1024 → bitB (mapRow p) k = if k < n then tk.getD (k + 1) false else true) ∧ tk.getD me false = true
theorem free_rise (p : Pg) : (freeL p).Pairwise (· < ·) := by
  unfold freeL
  split
  · exact (List.pairwise_map.2 ((List.pairwise_lt_range.filter _).imp (fun h => Nat.succ_lt_succ h)))
  · exact List.Pairwise.nil
theorem mem_free {p : Pg} (hm : mapB p = true) {x : Nat} (h1 : 1 ≤ x) (h2 : x ≤ 1024) (hb : bitB (mapRow p) (x - 1) = false) : x ∈ freeL p := by
  unfold freeL
  rw [if_pos hm]
  refine List.mem_map.2 ⟨x - 1, List.mem_filter.2 ⟨List.mem_range.2 (by omega), by rw [hb]; rfl⟩, by omega⟩
theorem gives_new {me n : Nat} (h1 : 1 ≤ me) (h2 : me ≤ n) (h3 : n ≤ 60) : ∃ p, newB me (n : Int) [] = (p, 0) ∧ GiveI n me ((List.replicate (n + 1) false).set me true) p := by
  have hok : newOk me (n : Int) [] := ⟨by omega, by omega, fun x hx => by
    rcases List.mem_cons.1 hx with rfl | h
    · omega
    · cases h⟩
  refine ⟨⟨4, 0, me, 0, 0, [newRow me n []]⟩, by rw [newB_yes hok]; rfl, new_map hok, ⟨(show 4 < 256 by omega), (show 0 < 256 by omega), (show me < 256 ^ 4 by omega), (show 0 < 256 ^ 8 by omega), (show 0 < 256 ^ 4 by omega)⟩, rfl, h1, h2, h3, by simp, ?_, ?_⟩
  · intro k hk
    simp only [mapRow, List.getD_cons_zero]
    rw [bit_new hok hk]
    by_cases hkn : k < n
    · rw [if_pos hkn, decide_eq_false (show ¬ n ≤ k by omega), Bool.or_false]
      by_cases hkm : k + 1 = me
      · subst hkm
        rw [decide_eq_true (by simp)]
        rw [List.getD_eq_getElem?_getD, List.getElem?_set_self (by simp; omega)]
        rfl
      · rw [decide_eq_false (by simp; omega)]
        rw [List.getD_eq_getElem?_getD, List.getElem?_set_ne (by omega)]
        rw [List.getElem?_replicate]
        split <;> rfl
    · rw [if_neg hkn, decide_eq_true (show n ≤ k by omega), Bool.or_true]
  · rw [List.getD_eq_getElem?_getD, List.getElem?_set_self (by simp; omega)]; rfl
theorem gives_bit {n me : Nat} {tk : List Bool} {p : Pg} (h : GiveI n me tk p) {x : Nat} (h1 : 1 ≤ x) (h2 : x ≤ n) : bitB (mapRow p) (x - 1) = tk.getD x false := by
  obtain ⟨_, _, _, _, _, hn, _, hb, _⟩ := h
  rw [hb (x - 1) (by omega), if_pos (by omega), show x - 1 + 1 = x by omega]
theorem gives_is {n me : Nat} {tk : List Bool} {p : Pg} (h : GiveI n me tk p) {x : Nat} (h1 : 1 ≤ x) (h2 : x ≤ n) : isB p x = tk.getD x false := by
  have hb := gives_bit h h1 h2
  obtain ⟨hm, _, _, _, _, hn, _, _, _⟩ := h
  unfold isB
  rw [hm, hb, decide_eq_false (by omega), decide_eq_false (by omega)]
  simp
theorem gives_end {n me : Nat} {tk : List Bool} {p : Pg} (h : GiveI n me tk p) : isB p (n + 1) = true ∧ chkB p = 0 := by
  obtain ⟨hm, _, _, _, _, hn, _, hb, _⟩ := h
  refine ⟨?_, by unfold chkB; rw [if_pos hm]⟩
  unfold isB
  rw [hm, Nat.add_sub_cancel, hb n (by omega), if_neg (by omega)]
  simp
theorem gives_yes {n me : Nat} {tk : List Bool} {p : Pg} (h : GiveI n me tk p) {k : Nat} (h1 : 1 ≤ k) (h2 : k ≤ n) (ht : tk.getD k false = true) (hk : k ≠ me) : giveB p k = (patchO p k, 0) := by
  have hb := gives_bit h h1 h2
  obtain ⟨hm, _, hid, _, _, hn, _, _, _⟩ := h
  unfold giveB
  rw [if_pos hm, if_neg (by omega), if_pos (by rw [hb]; exact ht)]
theorem gives_no {n me : Nat} {tk : List Bool} {p : Pg} (h : GiveI n me tk p) {k : Nat} (h1 : 1 ≤ k) (h2 : k ≤ n) (hno : ¬ (tk.getD k false = true ∧ k ≠ me)) : ∃ e : Int, (e == 0) = false ∧ (e != 0) = true ∧ giveB p k = (Od.zero, e) := by
  have hb := gives_bit h h1 h2
  obtain ⟨hm, _, hid, _, _, hn, _, _, _⟩ := h
  unfold giveB
  rw [if_pos hm]
  by_cases hk : k = me
  · exact ⟨2, rfl, rfl, by rw [if_pos (by omega)]⟩
  · refine ⟨3, rfl, rfl, ?_⟩
    rw [if_neg (by omega), if_neg]
    rw [hb]
    exact fun ht => hno ⟨ht, hk⟩
theorem gives_flip {n me : Nat} {tk : List Bool} {p : Pg} (h : GiveI n me tk p) {k : Nat} (h1 : 1 ≤ k) (h2 : k ≤ n) (hk : k ≠ me) {lsn : Nat} (hl : lsn < 256 ^ 8) :
    ∃ q, applyB p (patchO p k) lsn = (q, 0) ∧ (∀ t, t = !(tk.getD k false) → GiveI n me (tk.set k t) q) := by
  have hbk := gives_bit h h1 h2
  obtain ⟨hm, hwf, hid, hm1, hm2, hn, htl, hb, hme⟩ := h
  have hlen := map_len hm.symm
  have hd : (k - 1) / 8 < (mapRow p).length := by rw [hlen]; omega
  have hp := patch_apply hm h1 (by omega) (by omega) lsn
  refine ⟨_, hp.1, fun t ht => ⟨hp.2, ?_, hid, hm1, hm2, hn, by rw [List.length_set]; exact htl, ?_, ?_⟩⟩
  · obtain ⟨a, b, c, d, e⟩ := hwf
    exact ⟨a, b, c, hl, e⟩
  · intro j hj
    have hmr : mapRow ⟨p.kind, p.level, p.id, lsn, p.next, [flipAt (mapRow p) (k - 1)]⟩ = flipAt (mapRow p) (k - 1) := rfl
    rw [hmr, bit_flip _ _ _ hd]
    by_cases hjk : j = k - 1
    · subst hjk
      rw [if_pos rfl, hbk, if_pos (by omega), show k - 1 + 1 = k by omega, ← ht, List.getD_eq_getElem?_getD, List.getElem?_set_self (by omega)]
      rfl
    · rw [if_neg hjk, hb j hj]
      by_cases hjn : j < n
      · rw [if_pos hjn, if_pos hjn]
        rw [List.getD_eq_getElem?_getD, List.getD_eq_getElem?_getD, List.getElem?_set_ne (by omega)]
      · rw [if_neg hjn, if_neg hjn]
  · rw [List.getD_eq_getElem?_getD, List.getElem?_set_ne (by omega), ← List.getD_eq_getElem?_getD]
    exact hme
theorem gives_alloc {n me : Nat} {tk : List Bool} {p : Pg} (h : GiveI n me tk p) {m : Nat} (h1 : 1 ≤ m) (h2 : m ≤ n) (hall : ∀ y, 1 ≤ y → y < m → tk.getD y false = true) (hm0 : tk.getD m false = false) : allocB p = (m, patchO p m, 0) := by
  have hbm := gives_bit h h1 h2
  have hbs := fun x (hx : 1 ≤ x) (hx2 : x ≤ n) => gives_bit h hx hx2
  obtain ⟨hm, _, hid, _, _, hn, _, _, _⟩ := h
  have hmem := mem_free hm h1 (by omega) (by rw [hbm]; exact hm0)
  unfold allocB
  rw [if_pos hm]
  have hr := free_rise p
  cases hF : freeL p with
  | nil => rw [hF] at hmem; cases hmem
  | cons a F =>
    have ha := free_mem2 (p := p) (n := a) (by rw [hF]; simp)
    rw [hF] at hmem hr
    have hle : a ≤ m := by
      rcases List.mem_cons.1 hmem with rfl | hx
      · exact Nat.le_refl _
      · exact Nat.le_of_lt ((List.pairwise_cons.1 hr).1 _ hx)
    have hge : m ≤ a := by
      apply Nat.le_of_not_lt
      intro hlt
      have := hall a ha.1 hlt
      rw [← hbs a ha.1 (by omega), ha.2.2] at this
      cases this
    obtain rfl : a = m := by omega
    rfl
theorem gives_full {n me : Nat} {tk : List Bool} {p : Pg} (h : GiveI n me tk p) (hall : ∀ y, 1 ≤ y → y ≤ n → tk.getD y false = true) : allocB p = (0, Od.zero, 4) := by
  have hbs := fun x (hx : 1 ≤ x) (hx2 : x ≤ n) => gives_bit h hx hx2
  obtain ⟨hm, _, hid, _, _, hn, _, hb, _⟩ := h
  unfold allocB
  rw [if_pos hm]
  cases hF : freeL p with
  | nil => rfl
  | cons a F =>
    have ha := free_mem2 (p := p) (n := a) (by rw [hF]; simp)
    exfalso
    by_cases hle : a ≤ n
    · have := hall a ha.1 hle
      rw [← hbs a ha.1 hle, ha.2.2] at this
      cases this
    · have := hb (a - 1) (by omega)
      rw [if_neg (by omega), ha.2.2] at this
      cases this
theorem Try.infoBool : (Try.prog.info? 4).map (fun i => (i.zero, i.size, i.bytes)) = some (some (.bool false), 1, 1) := by kernel_rfl
theorem _root_.Go.World.rowIs.below {w w' : World} {b : Nat} {t : TypeId} {n : Nat} {f : Nat → Value} (h : w.rowIs b t n f) (hb : Below w.heap.size w w') : w'.rowIs b t n f := h.of_block (hb.block b h.lt)
theorem PgBox.off_row {w w' : World} {x g kind level id lsn next : Nat} {sv : Value} (hk : OthersKept w w' (fun k => k = x)) (h : PgBox w g kind level id lsn next sv) (hne : ¬ g = x) : PgBox w' g kind level id lsn next sv := hk.heap h hne
theorem TextsAt.off_row {w w' : World} {g n : Nat} {t : TypeId} {f : Nat → Bool} {v : Value} {ts : List (List UInt8)} (h : TextsAt w v ts) (hr : w.rowIs g t n (fun k => .bool (f k))) (hk : OthersKept w w' (fun k => k = g)) : TextsAt w' v ts := by
  obtain ⟨A, cp, h1, h2, h3, h4, h5⟩ := h
  refine ⟨A, cp, h1, h2, h3, h4, fun h0 => ?_⟩
  obtain ⟨b, o, e1, e2, e3⟩ := h5 h0
  refine ⟨b, o, e1, Nat.lt_of_lt_of_le e2 hk.size, fun j hj => hk.cell (e3 j hj) (fun e => ?_)⟩
  simp only at e
  subst e
  have h6 := e3 j hj
  by_cases hlt : o + j < n
  · rw [hr.cell hlt] at h6
    cases h6
  · obtain ⟨c, hb, hs, hc⟩ := hr
    rw [cell_of_row w b (o + j) c t _ hb, Array.getElem?_eq_none (by omega)] at h6
    cases h6
set_option maxHeartbeats 8000000 in
set_option maxRecDepth 100000 in
theorem spaceGivesLaw_any (pages id : Nat) (tv : Value) (ts : List Nat) (w : World) (hpg : pages < 256 ^ 2) (hid : id < 256 ^ 2) (ht : N16At w tv ts) (hts : ∀ t ∈ ts, t < 256 ^ 2) :
    Calls Try.prog 4 #[.int .u16 pages, .int .u16 id, tv] w fun e w' => e = .returned (.bool true) ∧ Below w.heap.size w w' := by
  have AL := Lib.hid fun W => works16_any W
  have HTS := Lib.hid hts
  obtain ⟨tn, htn⟩ : ∃ n, n = ts.length := ⟨_, rfl⟩
  obtain ⟨TA, tc, htv, k2, k3, _, k5⟩ := ht
  have K5 := Lib.hid k5
  rw [← htn] at htv k2
  subst htv
  unfold maxLen at k3
  have HTN := Lib.hid htn
  clear htn hts k5
  obtain ⟨n, hn⟩ : ∃ n, n = 1 + pages % 60 := ⟨_, rfl⟩
  have hni : (1 : Int) + (pages : Int) % 60 = (n : Int) := by omega
  have hn1 : 1 ≤ n := by omega
  have hn2 : n ≤ 60 := by omega
  obtain ⟨me, hme⟩ : ∃ m, m = 1 + id % n := ⟨_, rfl⟩
  have hmod := Nat.mod_lt id (show n > 0 by omega)
  have hx1 : (1 : Int) + (id : Int) % (n : Int) = (me : Int) := by rw [hme]; simp
  have hm0 : (0 : Int) ≤ (id : Int) % (n : Int) := Int.emod_nonneg _ (by omega)
  have hm1 : (id : Int) % (n : Int) < 60 := by omega
  have hn0 : ((n : Int) == 0) = false := by simp; omega
  have hnp : (0 : Int) < (n : Int) := by omega
  have hme1 : 1 ≤ me := by omega
  have hme2 : me ≤ n := by omega
  obtain ⟨p0, hnew, hinv⟩ := gives_new hme1 hme2 hn2
  have IV0 := Lib.hid hinv
  have CN := Lib.hid fun W => spaceNew_any me (n : Int) (.slice none 0 0) [] W (by omega) (by omega) ⟨none, 0, rfl, Nat.le_refl _, Nat.zero_le _, fun _ => ⟨rfl, rfl⟩, fun h => absurd h (Nat.lt_irrefl 0)⟩ (fun t ht => by cases ht) (by simp)
  rw [hnew] at CN
  clear hnew hinv hn hme hmod
  obtain ⟨pa, pb, pc, pd, pe, rowsP⟩ := p0
  (try simp only at CN)
  go_enter Try.func4, Try.ntmps4
  by_cases ht60 : tn ≤ 100
  case neg =>
    have hti : decide ((100 : Int) < (tn : Int)) = true := decide_eq_true (by omega)
    go_wp2_with fail
    refine (AL.out _).mono ?_
    rintro e wa ⟨rfl, hba⟩
    have Ba := Lib.hid hba
    clear hba
    go_wp2_with fail
    go_ret
    exact ⟨rfl, Ba.out⟩
  have hti : decide ((100 : Int) < (tn : Int)) = false := decide_eq_false (by omega)
  have B0 := Lib.hid (Below.refl w.heap.size w)
  obtain ⟨w0, hw0⟩ : ∃ v, v = w := ⟨_, rfl⟩
  rw [← hw0]
  rw [← hw0] at B0
  have B0 : Hid (Below w.heap.size w w0) := by rw [hw0]; exact Lib.hid (Below.refl _ _)
  have HW0 := Lib.hid hw0
  clear hw0
  go_wp2_with fail
  refine (CN.out _).mono ?_
  rintro e w1 ⟨sv1, rfl, G, hb⟩
  (try simp only at G)
  obtain ⟨np, hnp⟩ : ∃ z, z = rowsP.length := ⟨_, rfl⟩
  have Hnp := Lib.hid hnp
  clear hnp
  have T1 := Lib.hid G
  obtain ⟨A1, cp1, hv1, _, _, _, _⟩ := G
  rw [← Hnp.out] at hv1
  subst hv1
  have B1 := Lib.hid (below_then B0.out hb)
  clear hb B0 
  have B1X := B1
  unfold pgV
  simp only
  go_upto_region 6 with fail
  have BN := Lib.hid (alloc_below w1 (.cells #[.int .u8 pa, .int .u8 pb, .int .u32 pc, .int .u64 pd, .int .u32 pe, .slice A1 np cp1] 26))
  have P2 := Lib.hid (PgBox.new w1 pa pb pc pd pe (.slice A1 np cp1))
  generalize w1.alloc (.cells #[.int .u8 pa, .int .u8 pb, .int .u32 pc, .int .u64 pd, .int .u32 pe, .slice A1 np cp1] 26) = w2 at *
  have hb := BN.out
  clear BN
  have B2 := Lib.hid (below_then B1.out hb)
  have T2 := Lib.hid (T1.out.below hb)
  clear hb B1 T1
  obtain ⟨g9, hg9⟩ : ∃ z, z = w1.heap.size := ⟨_, rfl⟩
  rw [← hg9] at P2
  have HG9 := Lib.hid hg9
  have hwg : w.heap.size ≤ g9 := by have := B1X.out.size; omega
  clear hg9 hni
  obtain ⟨n1, hn1e⟩ : ∃ z, z = n + 1 := ⟨_, rfl⟩
  have hnq : (n : Int) + 1 = (n1 : Int) := by omega
  have HN1 := Lib.hid hn1e
  have hmlt : (me : Int) < (n1 : Int) := by omega
  have hn1b : n1 ≤ 61 := by omega
  clear hn1e
  have hmz : (0 : Int) ≤ (me : Int) := by omega
  obtain ⟨ib, hif, hz0, hz1, hz2⟩ := info_parts Try.infoBool
  have HI := Lib.hid hif
  have HI0 := Lib.hid hz0
  have HI1 := Lib.hid hz1
  have HI2 := Lib.hid hz2
  clear hif hz0 hz1 hz2
  rw [← HG9.out]
  go_upto_region 9 with (refine wpList_make_row _ rfl (.tmp 48) (.tmp 48) 47 rfl 4 ib (.bool false) Try.underlying47 HI.out HI0.out HI1.out rfl .i64 .i64 n1 (by rfl) (by rfl) (by rw [HI2.out]; omega) (by omega) ?_)
  have hb := alloc_below w2 (.cells (madeCells #[.bool false] n1) 4)
  have RW3 := Lib.hid (World.rowIs_made w2 (.bool false) n1 4)
  obtain ⟨gt, hgt⟩ : ∃ z, z = w2.heap.size := ⟨_, rfl⟩
  have hgg : g9 < gt := by rw [hgt]; exact P2.out.lt
  have HGT := Lib.hid hgt
  rw [← hgt] at RW3 ⊢
  clear hgt
  rw [HGT.out]
  generalize w2.alloc (.cells (madeCells #[.bool false] n1) 4) = w3 at *
  have B3 := Lib.hid (below_then B2.out hb)
  have T3 := Lib.hid (T2.out.below hb)
  have P3 := Lib.hid (P2.out.below hb)
  clear hb B2 T2 P2
  rw [← HGT.out]
  have c0 := RW3.out.cell (i := me) (by omega)
  have f0 := RW3.out.frozen me
  have l0 := RW3.out.lt
  go_wp2_with fail
  have KS := Lib.hid (one_kept w3 gt me (.bool true))
  have RS := Lib.hid (RW3.out.set me (.bool true))
  have T4 := Lib.hid (TextsAt.off_row (f := fun _ => false) T3.out RW3.out KS.out)
  have P4 := Lib.hid (PgBox.off_row KS.out P3.out (by omega))
  have B4 := Lib.hid (OthersKept.below B3.out KS.out (fun k hk e => by omega))
  generalize w3.setCell ⟨gt, me, none⟩ (.bool true) = w4 at *
  have R4 := Lib.hid (RS.out.congr (g := fun k => .bool (((List.replicate (n + 1) false).set me true).getD k false)) (fun i hi => by
    by_cases him : i = me
    · subst him
      rw [if_pos rfl, List.getD_eq_getElem?_getD, List.getElem?_set_self (by simp; omega)]
      rfl
    · rw [if_neg him, List.getD_eq_getElem?_getD, List.getElem?_set_ne (by omega), List.getElem?_replicate]
      split <;> rfl))
  generalize (List.replicate (n + 1) false).set me true = tk0 at *
  clear KS RS T3 P3 B3 RW3 c0 f0 l0 CN HI HI0 HI1 HI2 HG9 hx1 hm0 hm1
  clear B1X
  go_loopw [12] (fun s12 wr => ∃ (i : Nat) (p : Pg) (tk : List Bool) (A : Option Addr) (c : Nat), s12 = .int .i64 i ∧ i ≤ tn ∧ Hid (GiveI n me tk p) ∧ Hid (PgBox wr g9 p.kind p.level p.id p.lsn p.next (.slice A p.rows.length c)) ∧ Hid (TextsAt wr (.slice A p.rows.length c) p.rows) ∧ Hid (wr.rowIs gt 4 n1 (fun k => .bool (tk.getD k false))) ∧ Hid (Below w.heap.size w wr)) (fun v _ => tn - (intOf v).toNat)
  case atStart => exact ⟨0, ⟨pa, pb, pc, pd, pe, rowsP⟩, tk0, A1, cp1, rfl, Nat.zero_le _, IV0, Lib.hid (by simp only; rw [← Hnp.out]; exact P4.out), Lib.hid (by simp only; rw [← Hnp.out]; exact T4.out), R4, B4⟩
  case round =>
    clear IV0 P4 T4 R4 B4 Hnp
    obtain ⟨i, ⟨pa, pb, pc, pd, pe, rowsP⟩, tk, A, c, rfl, hi, IV, PB, TT, RR, BB⟩ := hrel
    simp only at PB TT
    obtain ⟨np, hnpx⟩ : ∃ z, z = rowsP.length := ⟨_, rfl⟩
    rw [← hnpx] at PB TT
    have HNP := Lib.hid hnpx
    clear hnpx
    by_cases hlt : i < tn
    · have hci : (i : Int) < (tn : Int) := by omega
      have hit : i < ts.length := by rw [← HTN.out]; exact hlt
      obtain ⟨b0, o0, rfl, hb0, hcell⟩ := K5.out (by omega)
      have c1 := (BB.out.cell (p := ⟨b0, o0 + i, none⟩) hb0).trans (hcell i hit)
      have q1 : (0 : Int) ≤ (i : Int) := by omega
      have htb := HTS.out _ (List.getElem_mem hit)
      generalize ts[i] = t at *
      have hmod := Nat.mod_lt t (show n > 0 by omega)
      obtain ⟨k, hk⟩ : ∃ x, x = 1 + t % n := ⟨_, rfl⟩
      have hx1 : (1 : Int) + (t : Int) % (n : Int) = (k : Int) := by rw [hk]; simp
      have hm0 : (0 : Int) ≤ (t : Int) % (n : Int) := Int.emod_nonneg _ (by omega)
      have hm1 : (t : Int) % (n : Int) < 60 := by omega
      have hk1 : 1 ≤ k := by omega
      have hk2 : k ≤ n := by omega
      clear hk hmod hcell hit
      obtain ⟨l1, hl1⟩ : ∃ z, z = i + 1 := ⟨_, rfl⟩
      have hli : (i : Int) + 1 = (l1 : Int) := by omega
      have hlb : l1 ≤ 101 := by omega
      have HL1 := Lib.hid hl1
      clear hl1
      obtain ⟨b72, hb72⟩ : ∃ b, ((t : Int) % 3 == 0) = b := ⟨_, rfl⟩
      have CF := Lib.hid fun sv W h => spaceGive_any ⟨pa, pb, pc, pd, pe, rowsP⟩ sv k W IV.out.2.1 h (map_wt IV.out.1).1
      have CA := Lib.hid fun sv W h => spaceAlloc_any ⟨pa, pb, pc, pd, pe, rowsP⟩ sv W IV.out.2.1 h (map_wt IV.out.1).1
      have AP := Lib.hid fun x lsn sv W (h : TextsAt W sv rowsP) (hx : x ≤ 1024) (hl : lsn < 256 ^ 8) => opApply_any ⟨pa, pb, pc, pd, pe, rowsP⟩ (patchO ⟨pa, pb, pc, pd, pe, rowsP⟩ x) sv (.slice none 0 0) lsn W h (TextsAt.nil W) IV.out.2.1 (patchO_wf IV.out.2.1 hx) (patchO_small _ _) hl (map_wt IV.out.1).1 (map_wt IV.out.1).2
      unfold pgV at CF CA AP
      unfold odV at CF CA AP
      simp only at CF CA AP
      go_upto_if 72 with fail
      go_cut [] (fun w' => ∃ (p : Pg) (tk : List Bool) (A : Option Addr) (c : Nat), Hid (GiveI n me tk p) ∧ Hid (PgBox w' g9 p.kind p.level p.id p.lsn p.next (.slice A p.rows.length c)) ∧ Hid (TextsAt w' (.slice A p.rows.length c) p.rows) ∧ Hid (w'.rowIs gt 4 n1 (fun k => .bool (tk.getD k false))) ∧ Hid (Below w.heap.size w w'))
      case first =>
        have B0 := BB
        have T0 := TT
        have P0 := PB
        have R0 := RR
        generalize wr = w0 at *
        clear BB TT PB RR
        cases b72
        case true =>
          by_cases hc : tk.getD k false = true ∧ k ≠ me
          case pos =>
            obtain ⟨⟨qa, qb, qc, qd, qe, rowsQ⟩, hap, hiq⟩ := gives_flip IV.out hk1 hk2 hc.2 (lsn := l1) (by omega)
            have IQ := Lib.hid (hiq false (by rw [hc.1]; rfl))
            have CF2 := Lib.hid fun sv W h => CF.out sv W h
            rw [gives_yes IV.out hk1 hk2 hc.1 hc.2] at CF2
            have AA2 := Lib.hid fun sv W h => AP.out k l1 sv W h (by omega) (by omega)
            rw [hap] at AA2
            obtain ⟨⟨o0, o1, o2, o3, o4, o5, o6, o7, o8⟩, hod⟩ : ∃ o, o = patchO ⟨pa, pb, pc, pd, pe, rowsP⟩ k := ⟨_, rfl⟩
            rw [← hod] at CF2 AA2
            (try simp only at CF2 AA2)
            have htk := hc.1
            have hkm : ((k : Int) != (me : Int)) = true := by have := hc.2; simp; omega
            have hkn : (k : Int) < (n1 : Int) := by omega
            have hk0 : (0 : Int) ≤ (k : Int) := by omega
            clear CF CA AP AL hap hiq hod hc
            obtain ⟨x0, x1, x2, x3, x4, x5, x6⟩ := P0.out.cells
            go_wp2_with fail
            clear x0 x1 x2 x3 x4 x5 x6
            refine (CF2.out _ _ T0.out).mono ?_
            rintro e w1 ⟨rfl, hb⟩
            have B1 := Lib.hid (below_then B0.out hb)
            have T1 := Lib.hid (T0.out.below hb)
            have P1 := Lib.hid (P0.out.below hb)
            have R1 := Lib.hid (R0.out.below hb)
            clear hb B0 T0 P0 R0
            have lg1 : gt < w1.heap.size := R1.out.lt
            obtain ⟨x0, x1, x2, x3, x4, x5, x6⟩ := P1.out.cells
            (try unfold odV)
            (try simp only)
            go_upto_region 16 with fail
            clear x0 x1 x2 x3 x4 x5 x6
            have BN := Lib.hid (alloc_below w1 (.cells #[.int .u8 o0, .int .u32 o1, .int .i64 o2, .int .i64 o3, .string ⟨o4.toArray⟩, .slice none 0 0, .int .u8 o6, .int .u8 o7, .int .u32 o8] 28))
            have O2 := Lib.hid (OAt.new w1 ⟨o0, o1, o2, o3, o4, o5, o6, o7, o8⟩ (.slice none 0 0))
            generalize w1.alloc (.cells #[.int .u8 o0, .int .u32 o1, .int .i64 o2, .int .i64 o3, .string ⟨o4.toArray⟩, .slice none 0 0, .int .u8 o6, .int .u8 o7, .int .u32 o8] 28) = w2 at *
            have hb := BN.out
            clear BN
            have B2 := Lib.hid (below_then B1.out hb)
            have T2 := Lib.hid (T1.out.below hb)
            have P2 := Lib.hid (P1.out.below hb)
            have R2 := Lib.hid (R1.out.below hb)
            clear hb B1 T1 P1 R1
            have lg2 : gt < w2.heap.size := R2.out.lt
            have c9 := R2.out.cell (i := k) (by omega)
            (try simp only at c9)
            rw [htk] at c9
            go_upto_region 19 with fail
            obtain ⟨x0, x1, x2, x3, x4, x5, x6⟩ := P2.out.cells
            obtain ⟨y0, y1, y2, y3, y4, y5, y6, y7, y8⟩ := O2.out.cells
            simp only at y0 y1 y2 y3 y4 y5 y6 y7 y8
            have y9 := blk_lt O2.out
            go_wp2_with fail
            clear x0 x1 x2 x3 x4 x5 x6 y0 y1 y2 y3 y4 y5 y6 y7 y8 y9
            refine (AA2.out _ _ T2.out).mono ?_
            rintro e w3 ⟨sv3, rfl, G, hb⟩
            (try simp only at G)
            obtain ⟨nq, hnq⟩ : ∃ z, z = rowsQ.length := ⟨_, rfl⟩
            have Hnq := Lib.hid hnq
            clear hnq
            have U3 := Lib.hid G
            obtain ⟨A3, cp3, hv3, _, _, _, _⟩ := G
            rw [← Hnq.out] at hv3
            subst hv3
            have B3 := Lib.hid (below_then B2.out hb)
            have T3 := Lib.hid (T2.out.below hb)
            have P3 := Lib.hid (P2.out.below hb)
            have R3 := Lib.hid (R2.out.below hb)
            have O3 := Lib.hid (O2.out.below hb)
            clear hb B2 T2 P2 R2 O2
            have lg3 : gt < w3.heap.size := R3.out.lt
            obtain ⟨x0, x1, x2, x3, x4, x5, x6⟩ := P3.out.cells
            obtain ⟨y0, y1, y2, y3, y4, y5, y6, y7, y8⟩ := O3.out.cells
            simp only at y0 y1 y2 y3 y4 y5 y6 y7 y8
            have y9 := blk_lt O3.out
            unfold pgV
            simp only
            go_upto_region 20 with fail
            clear x0 x1 x2 x3 x4 x5 x6 y0 y1 y2 y3 y4 y5 y6 y7 y8 y9
            have BN := Lib.hid (alloc_below w3 (.cells #[.int .u8 qa, .int .u8 qb, .int .u32 qc, .int .u64 qd, .int .u32 qe, .slice A3 nq cp3] 26))
            have Q4 := Lib.hid (PgBox.new w3 qa qb qc qd qe (.slice A3 nq cp3))
            generalize w3.alloc (.cells #[.int .u8 qa, .int .u8 qb, .int .u32 qc, .int .u64 qd, .int .u32 qe, .slice A3 nq cp3] 26) = w4 at *
            have hb := BN.out
            clear BN
            have B4 := Lib.hid (below_then B3.out hb)
            have T4 := Lib.hid (T3.out.below hb)
            have P4 := Lib.hid (P3.out.below hb)
            have R4 := Lib.hid (R3.out.below hb)
            have O4 := Lib.hid (O3.out.below hb)
            have U4 := Lib.hid (U3.out.below hb)
            clear hb B3 T3 P3 R3 O3 U3
            have lg4 : gt < w4.heap.size := R4.out.lt
            clear AA2 CF2
            clear O4
            have c9 := R4.out.cell (i := k) (by omega)
            (try simp only at c9)
            rw [htk] at c9
            have f9 := R4.out.frozen k
            have l9 := R4.out.lt
            go_upto_region 23 with fail
            have KS := Lib.hid (one_kept w4 gt k (.bool false))
            have RS := Lib.hid (R4.out.set k (.bool false))
            have US := Lib.hid (TextsAt.off_row (f := fun j => tk.getD j false) U4.out R4.out KS.out)
            have PS := Lib.hid (PgBox.off_row KS.out P4.out (by omega))
            have QS := Lib.hid (PgBox.off_row KS.out Q4.out (by omega))
            have BS := Lib.hid (OthersKept.below B4.out KS.out (fun k hk e => by omega))
            generalize w4.setCell ⟨gt, k, none⟩ (.bool false) = w5 at *
            have RZ := Lib.hid (RS.out.congr (g := fun j => .bool ((tk.set k false).getD j false)) (fun j hj => by
              by_cases hjk : j = k
              · subst hjk
                simp only [if_pos]
                rw [List.getD_eq_getElem?_getD, List.getElem?_set_self (by have := IV.out.2.2.2.2.2.2.1; have := HN1.out; omega)]
                rfl
              · simp only [if_neg hjk]
                rw [List.getD_eq_getElem?_getD, List.getD_eq_getElem?_getD, List.getElem?_set_ne (by omega)]))
            clear RS c9 f9 l9 KS R4 U4 P4 Q4 B4 T4
            obtain ⟨x0, x1, x2, x3, x4, x5, x6⟩ := PS.out.cells
            obtain ⟨z0, z1, z2, z3, z4, z5, z6⟩ := QS.out.cells
            go_wp2_with (refine wpList_store_pg rfl (.tmp 9) (.tmp 109) rfl PS.out qa qb qc qd qe A3 nq cp3 (by rfl) (by rfl) ?_; intro wS hP hK; have PF := Lib.hid hP; have KF := Lib.hid hK; clear hP hK)
            go_meet
            exact ⟨⟨qa, qb, qc, qd, qe, rowsQ⟩, tk.set k false, A3, cp3, IQ, Lib.hid (by simp only; rw [← Hnq.out]; exact PF.out), Lib.hid (by simp only; rw [← Hnq.out]; exact TextsAt.off_pg US.out PS.out (fun x e => by cases e) KF.out), Lib.hid (RZ.out.of_block (KF.out.block gt RZ.out.lt (by omega))), Lib.hid (OthersKept.below BS.out KF.out (fun k hk e => by omega))⟩
          case neg =>
            obtain ⟨er, he1, he2, hg⟩ := gives_no IV.out hk1 hk2 hc
            have CF2 := Lib.hid fun sv W h => CF.out sv W h
            rw [hg] at CF2
            unfold Od.zero at CF2
            simp only [List.toArray] at CF2
            (try simp only at CF2)
            have hkn : (k : Int) < (n1 : Int) := by omega
            have hk0 : (0 : Int) ≤ (k : Int) := by omega
            have HC := Lib.hid hc
            clear CF CA AP AL hc hg
            obtain ⟨x0, x1, x2, x3, x4, x5, x6⟩ := P0.out.cells
            go_wp2_with fail
            clear x0 x1 x2 x3 x4 x5 x6
            refine (CF2.out _ _ T0.out).mono ?_
            rintro e w1 ⟨rfl, hb⟩
            have B1 := Lib.hid (below_then B0.out hb)
            have T1 := Lib.hid (T0.out.below hb)
            have P1 := Lib.hid (P0.out.below hb)
            have R1 := Lib.hid (R0.out.below hb)
            clear hb B0 T0 P0 R0
            have lg1 : gt < w1.heap.size := R1.out.lt
            obtain ⟨x0, x1, x2, x3, x4, x5, x6⟩ := P1.out.cells
            (try unfold odV)
            (try simp only)
            go_upto_region 16 with fail
            clear x0 x1 x2 x3 x4 x5 x6
            have BN := Lib.hid (alloc_below w1 (.cells #[.int .u8 0, .int .u32 0, .int .i64 0, .int .i64 0, .string ⟨#[]⟩, .slice none 0 0, .int .u8 0, .int .u8 0, .int .u32 0] 28))
            have O2 := Lib.hid (OAt.new w1 Od.zero (.slice none 0 0))
            generalize w1.alloc (.cells #[.int .u8 0, .int .u32 0, .int .i64 0, .int .i64 0, .string ⟨#[]⟩, .slice none 0 0, .int .u8 0, .int .u8 0, .int .u32 0] 28) = w2 at *
            have hb := BN.out
            clear BN
            have B2 := Lib.hid (below_then B1.out hb)
            have T2 := Lib.hid (T1.out.below hb)
            have P2 := Lib.hid (P1.out.below hb)
            have R2 := Lib.hid (R1.out.below hb)
            clear hb B1 T1 P1 R1
            have lg2 : gt < w2.heap.size := R2.out.lt
            have c9 := R2.out.cell (i := k) (by omega)
            (try simp only at c9)
            have FIN := Lib.hid (show ∃ (i : Nat) (p : Pg) (tk : List Bool) (A : Option Addr) (c : Nat), (Value.int .i64 (l1 : Int)) = .int .i64 i ∧ i ≤ tn ∧ Hid (GiveI n me tk p) ∧ Hid (PgBox w2 g9 p.kind p.level p.id p.lsn p.next (.slice A p.rows.length c)) ∧ Hid (TextsAt w2 (.slice A p.rows.length c) p.rows) ∧ Hid (w2.rowIs gt 4 n1 (fun k => .bool (tk.getD k false))) ∧ Hid (Below w.heap.size w w2) from ⟨l1, ⟨pa, pb, pc, pd, pe, rowsP⟩, tk, A, c, rfl, by have := HL1.out; omega, IV, Lib.hid (by simp only; rw [← HNP.out]; exact P2.out), Lib.hid (by simp only; rw [← HNP.out]; exact T2.out), R2, B2⟩)
            obtain ⟨tb, htb9⟩ : ∃ b, b = tk.getD k false := ⟨_, rfl⟩
            rw [← htb9] at c9
            cases tb
            case false =>
              clear HC htb9
              go_wp2_with fail
              exact ⟨FIN.out, by have := HL1.out; simp only [intOf]; simp; omega⟩
            have hkm : ((k : Int) != (me : Int)) = false := by
              have h := HC.out
              simp
              by_cases h2 : k = me
              · omega
              · exact absurd ⟨htb9.symm, h2⟩ h
            clear HC htb9
            go_wp2_with fail
            exact ⟨FIN.out, by have := HL1.out; simp only [intOf]; simp; omega⟩
        case false =>
          go_wp2_with fail
          go_loopw [18] (fun s18 wr => ∃ m : Nat, s18 = .int .i64 m ∧ 1 ≤ m ∧ m ≤ n1 ∧ Hid (∀ y, 1 ≤ y → y < m → tk.getD y false = true) ∧ wr = w0) (fun v _ => n1 - (intOf v).toNat)
          case atStart => exact ⟨1, rfl, by omega, by omega, Lib.hid (fun y h1 h2 => by omega), rfl⟩
          case round =>
            obtain ⟨m, rfl, hm1, hm2, HY, hwr⟩ := hrel
            subst hwr
            generalize wr = w0 at *
            have hm0 : (0 : Int) ≤ (m : Int) := by omega
            by_cases hmn : m ≤ n
            case pos =>
              have hd1 : decide (m ≤ n) = true := decide_eq_true hmn
              have hd2 : (m : Int) ≤ (n : Int) := by omega
              have hd3 : (m : Int) < (n1 : Int) := by omega
              have c9 := R0.out.cell (i := m) (by omega)
              (try simp only at c9)
              obtain ⟨tb, htb9⟩ : ∃ b, b = tk.getD m false := ⟨_, rfl⟩
              rw [← htb9] at c9
              have HTB := Lib.hid htb9
              clear htb9
              cases tb
              case true =>
                clear CA AP CF
                go_wp2_with fail
                exact ⟨⟨m + 1, by go_num, by omega, by have := HN1.out; omega, Lib.hid (fun y h1 h2 => by
                  rcases Nat.lt_or_ge y m with h | h
                  · exact HY.out y h1 h
                  · obtain rfl : y = m := by omega
                    exact HTB.out.symm), by first | rfl | trivial⟩, by have := HN1.out; simp only [intOf]; simp; omega⟩
              have hne : m ≠ me := by
                intro e
                have h := IV.out.2.2.2.2.2.2.2.2
                rw [← e, ← HTB.out] at h
                cases h
              obtain ⟨⟨qa, qb, qc, qd, qe, rowsQ⟩, hap, hiq⟩ := gives_flip IV.out hm1 hmn hne (lsn := l1) (by omega)
              have IQ := Lib.hid (hiq true (by rw [← HTB.out]; rfl))
              have CA2 := Lib.hid fun sv W h => CA.out sv W h
              rw [gives_alloc IV.out hm1 hmn HY.out HTB.out.symm] at CA2
              have AA2 := Lib.hid fun sv W h => AP.out m l1 sv W h (by omega) (by omega)
              rw [hap] at AA2
              obtain ⟨⟨o0, o1, o2, o3, o4, o5, o6, o7, o8⟩, hod⟩ : ∃ o, o = patchO ⟨pa, pb, pc, pd, pe, rowsP⟩ m := ⟨_, rfl⟩
              rw [← hod] at CA2 AA2
              (try simp only at CA2 AA2)
              clear CF CA AP AL hap hiq hod
              go_upto_region 27 with fail
              clear c9
              obtain ⟨x0, x1, x2, x3, x4, x5, x6⟩ := P0.out.cells
              go_wp2_with fail
              clear x0 x1 x2 x3 x4 x5 x6
              refine (CA2.out _ _ T0.out).mono ?_
              rintro e w1 ⟨rfl, hb⟩
              have B1 := Lib.hid (below_then B0.out hb)
              have T1 := Lib.hid (T0.out.below hb)
              have P1 := Lib.hid (P0.out.below hb)
              have R1 := Lib.hid (R0.out.below hb)
              clear hb B0 T0 P0 R0
              have lg1 : gt < w1.heap.size := R1.out.lt
              obtain ⟨x0, x1, x2, x3, x4, x5, x6⟩ := P1.out.cells
              (try unfold odV)
              (try simp only)
              go_upto_region 28 with fail
              clear x0 x1 x2 x3 x4 x5 x6
              have BN := Lib.hid (alloc_below w1 (.cells #[.int .u8 o0, .int .u32 o1, .int .i64 o2, .int .i64 o3, .string ⟨o4.toArray⟩, .slice none 0 0, .int .u8 o6, .int .u8 o7, .int .u32 o8] 28))
              have O2 := Lib.hid (OAt.new w1 ⟨o0, o1, o2, o3, o4, o5, o6, o7, o8⟩ (.slice none 0 0))
              generalize w1.alloc (.cells #[.int .u8 o0, .int .u32 o1, .int .i64 o2, .int .i64 o3, .string ⟨o4.toArray⟩, .slice none 0 0, .int .u8 o6, .int .u8 o7, .int .u32 o8] 28) = w2 at *
              have hb := BN.out
              clear BN
              have B2 := Lib.hid (below_then B1.out hb)
              have T2 := Lib.hid (T1.out.below hb)
              have P2 := Lib.hid (P1.out.below hb)
              have R2 := Lib.hid (R1.out.below hb)
              clear hb B1 T1 P1 R1
              have lg2 : gt < w2.heap.size := R2.out.lt
              go_upto_region 31 with fail
              obtain ⟨x0, x1, x2, x3, x4, x5, x6⟩ := P2.out.cells
              obtain ⟨y0, y1, y2, y3, y4, y5, y6, y7, y8⟩ := O2.out.cells
              simp only at y0 y1 y2 y3 y4 y5 y6 y7 y8
              have y9 := blk_lt O2.out
              go_wp2_with fail
              clear x0 x1 x2 x3 x4 x5 x6 y0 y1 y2 y3 y4 y5 y6 y7 y8 y9
              refine (AA2.out _ _ T2.out).mono ?_
              rintro e w3 ⟨sv3, rfl, G, hb⟩
              (try simp only at G)
              obtain ⟨nq, hnq⟩ : ∃ z, z = rowsQ.length := ⟨_, rfl⟩
              have Hnq := Lib.hid hnq
              clear hnq
              have U3 := Lib.hid G
              obtain ⟨A3, cp3, hv3, _, _, _, _⟩ := G
              rw [← Hnq.out] at hv3
              subst hv3
              have B3 := Lib.hid (below_then B2.out hb)
              have T3 := Lib.hid (T2.out.below hb)
              have P3 := Lib.hid (P2.out.below hb)
              have R3 := Lib.hid (R2.out.below hb)
              have O3 := Lib.hid (O2.out.below hb)
              clear hb B2 T2 P2 R2 O2
              have lg3 : gt < w3.heap.size := R3.out.lt
              obtain ⟨x0, x1, x2, x3, x4, x5, x6⟩ := P3.out.cells
              obtain ⟨y0, y1, y2, y3, y4, y5, y6, y7, y8⟩ := O3.out.cells
              simp only at y0 y1 y2 y3 y4 y5 y6 y7 y8
              have y9 := blk_lt O3.out
              unfold pgV
              simp only
              go_upto_region 32 with fail
              clear x0 x1 x2 x3 x4 x5 x6 y0 y1 y2 y3 y4 y5 y6 y7 y8 y9
              have BN := Lib.hid (alloc_below w3 (.cells #[.int .u8 qa, .int .u8 qb, .int .u32 qc, .int .u64 qd, .int .u32 qe, .slice A3 nq cp3] 26))
              have Q4 := Lib.hid (PgBox.new w3 qa qb qc qd qe (.slice A3 nq cp3))
              generalize w3.alloc (.cells #[.int .u8 qa, .int .u8 qb, .int .u32 qc, .int .u64 qd, .int .u32 qe, .slice A3 nq cp3] 26) = w4 at *
              have hb := BN.out
              clear BN
              have B4 := Lib.hid (below_then B3.out hb)
              have T4 := Lib.hid (T3.out.below hb)
              have P4 := Lib.hid (P3.out.below hb)
              have R4 := Lib.hid (R3.out.below hb)
              have O4 := Lib.hid (O3.out.below hb)
              have U4 := Lib.hid (U3.out.below hb)
              clear hb B3 T3 P3 R3 O3 U3
              have lg4 : gt < w4.heap.size := R4.out.lt
              clear AA2 CA2
              clear O4
              have c9 := R4.out.cell (i := m) (by omega)
              (try simp only at c9)
              rw [← HTB.out] at c9
              have f9 := R4.out.frozen m
              have l9 := R4.out.lt
              go_upto_region 35 with fail
              have KS := Lib.hid (one_kept w4 gt m (.bool true))
              have RS := Lib.hid (R4.out.set m (.bool true))
              have US := Lib.hid (TextsAt.off_row (f := fun j => tk.getD j false) U4.out R4.out KS.out)
              have PS := Lib.hid (PgBox.off_row KS.out P4.out (by omega))
              have QS := Lib.hid (PgBox.off_row KS.out Q4.out (by omega))
              have BS := Lib.hid (OthersKept.below B4.out KS.out (fun k hk e => by omega))
              generalize w4.setCell ⟨gt, m, none⟩ (.bool true) = w5 at *
              have RZ := Lib.hid (RS.out.congr (g := fun j => .bool ((tk.set m true).getD j false)) (fun j hj => by
                by_cases hjk : j = m
                · subst hjk
                  simp only [if_pos]
                  rw [List.getD_eq_getElem?_getD, List.getElem?_set_self (by have := IV.out.2.2.2.2.2.2.1; have := HN1.out; omega)]
                  rfl
                · simp only [if_neg hjk]
                  rw [List.getD_eq_getElem?_getD, List.getD_eq_getElem?_getD, List.getElem?_set_ne (by omega)]))
              clear RS c9 f9 l9 KS R4 U4 P4 Q4 B4 T4
              obtain ⟨x0, x1, x2, x3, x4, x5, x6⟩ := PS.out.cells
              obtain ⟨z0, z1, z2, z3, z4, z5, z6⟩ := QS.out.cells
              go_wp2_with (refine wpList_store_pg rfl (.tmp 9) (.tmp 163) rfl PS.out qa qb qc qd qe A3 nq cp3 (by rfl) (by rfl) ?_; intro wS hP hK; have PF := Lib.hid hP; have KF := Lib.hid hK; clear hP hK)
              go_meet
              exact ⟨⟨qa, qb, qc, qd, qe, rowsQ⟩, tk.set m true, A3, cp3, IQ, Lib.hid (by simp only; rw [← Hnq.out]; exact PF.out), Lib.hid (by simp only; rw [← Hnq.out]; exact TextsAt.off_pg US.out PS.out (fun x e => by cases e) KF.out), Lib.hid (RZ.out.of_block (KF.out.block gt RZ.out.lt (by omega))), Lib.hid (OthersKept.below BS.out KF.out (fun k hk e => by omega))⟩
            case neg =>
              have hd1 : decide (m ≤ n) = false := decide_eq_false hmn
              have hd2 : ¬ (m : Int) ≤ (n : Int) := by omega
              have CA2 := Lib.hid fun sv W h => CA.out sv W h
              rw [gives_full IV.out (fun y h1 h2 => HY.out y h1 (by omega))] at CA2
              unfold Od.zero at CA2
              simp only [List.toArray] at CA2
              (try simp only at CA2)
              clear CF CA AP AL
              go_upto_region 27 with fail
              obtain ⟨x0, x1, x2, x3, x4, x5, x6⟩ := P0.out.cells
              go_wp2_with fail
              clear x0 x1 x2 x3 x4 x5 x6
              refine (CA2.out _ _ T0.out).mono ?_
              rintro e w1 ⟨rfl, hb⟩
              have B1 := Lib.hid (below_then B0.out hb)
              have T1 := Lib.hid (T0.out.below hb)
              have P1 := Lib.hid (P0.out.below hb)
              have R1 := Lib.hid (R0.out.below hb)
              clear hb B0 T0 P0 R0
              have lg1 : gt < w1.heap.size := R1.out.lt
              obtain ⟨x0, x1, x2, x3, x4, x5, x6⟩ := P1.out.cells
              (try unfold odV)
              (try simp only)
              go_upto_region 28 with fail
              clear x0 x1 x2 x3 x4 x5 x6
              have BN := Lib.hid (alloc_below w1 (.cells #[.int .u8 0, .int .u32 0, .int .i64 0, .int .i64 0, .string ⟨#[]⟩, .slice none 0 0, .int .u8 0, .int .u8 0, .int .u32 0] 28))
              have O2 := Lib.hid (OAt.new w1 Od.zero (.slice none 0 0))
              generalize w1.alloc (.cells #[.int .u8 0, .int .u32 0, .int .i64 0, .int .i64 0, .string ⟨#[]⟩, .slice none 0 0, .int .u8 0, .int .u8 0, .int .u32 0] 28) = w2 at *
              have hb := BN.out
              clear BN
              have B2 := Lib.hid (below_then B1.out hb)
              have T2 := Lib.hid (T1.out.below hb)
              have P2 := Lib.hid (P1.out.below hb)
              have R2 := Lib.hid (R1.out.below hb)
              clear hb B1 T1 P1 R1
              have lg2 : gt < w2.heap.size := R2.out.lt
              have FIN := Lib.hid (show ∃ (i : Nat) (p : Pg) (tk : List Bool) (A : Option Addr) (c : Nat), (Value.int .i64 (l1 : Int)) = .int .i64 i ∧ i ≤ tn ∧ Hid (GiveI n me tk p) ∧ Hid (PgBox w2 g9 p.kind p.level p.id p.lsn p.next (.slice A p.rows.length c)) ∧ Hid (TextsAt w2 (.slice A p.rows.length c) p.rows) ∧ Hid (w2.rowIs gt 4 n1 (fun k => .bool (tk.getD k false))) ∧ Hid (Below w.heap.size w w2) from ⟨l1, ⟨pa, pb, pc, pd, pe, rowsP⟩, tk, A, c, rfl, by have := HL1.out; omega, IV, Lib.hid (by simp only; rw [← HNP.out]; exact P2.out), Lib.hid (by simp only; rw [← HNP.out]; exact T2.out), R2, B2⟩)
              go_wp2_with fail
              exact ⟨FIN.out, by have := HL1.out; simp only [intOf]; simp; omega⟩
      case rest =>
        clear IV PB TT RR BB HNP CF CA AP
        obtain ⟨⟨pa, pb, pc, pd, pe, rowsP⟩, tk, A, c, IV, PB, TT, RR, BB⟩ := hcut
        generalize wc = w0 at *
        simp only at PB TT
        obtain ⟨np, hnpx⟩ : ∃ z, z = rowsP.length := ⟨_, rfl⟩
        rw [← hnpx] at PB TT
        have HNP := Lib.hid hnpx
        clear hnpx
        have CI := Lib.hid fun x sv W h => spaceIs_any ⟨pa, pb, pc, pd, pe, rowsP⟩ sv x W IV.out.2.1 h (map_wt IV.out.1).1
        unfold pgV at CI
        simp only at CI
        go_wp2_with fail
        go_loopw [24] (fun s24 wr => ∃ x : Nat, s24 = .int .i64 x ∧ 1 ≤ x ∧ x ≤ n1 ∧ Hid (Below w0.heap.size w0 wr)) (fun v _ => n1 - (intOf v).toNat)
        case atStart => exact ⟨1, rfl, by omega, by omega, Lib.hid (Below.refl _ _)⟩
        case round =>
          obtain ⟨x, rfl, hx1, hx2, BX⟩ := hrel
          by_cases hxn : x ≤ n
          · have hd2 : (x : Int) ≤ (n : Int) := by omega
            have hd3 : (x : Int) < (n1 : Int) := by omega
            have hd4 : (0 : Int) ≤ (x : Int) := by omega
            have R1 := Lib.hid (RR.out.below BX.out)
            have c9 := R1.out.cell (i := x) (by omega)
            (try simp only at c9)
            have his := gives_is IV.out hx1 hxn
            generalize tk.getD x false = tb at c9 his
            have e9 := ext_cell c9 R1.out.lt
            have Z1 := Lib.hid fun (y : Ext wr.heap.size wr) => CI.out x _ y.val ((TT.out.below BX.out).below y.below)
            rw [his] at Z1
            obtain ⟨pl, p0, p1, p2, p3, p4, p5⟩ := (PB.out.below BX.out).cells
            have x0 := ext_cell p0 pl
            have x1 := ext_cell p1 pl
            have x2 := ext_cell p2 pl
            have x3 := ext_cell p3 pl
            have x4 := ext_cell p4 pl
            have x5 := ext_cell p5 pl
            clear p0 p1 p2 p3 p4 p5
            have hbb : (tb != tb) = false := by simp
            clear c9 his
            go_wp2_with fail
            refine wp_region_ext wr.heap.size (by kernel_rfl) (by kernel_rfl) ?_
            repeat (go_big_quiet_step ((go_at_call 29; with_reducible exact ext_call _ (Nat.le_refl _) (Z1.out _))))
            refine wpQuiet_nil ?_
            rintro _ ⟨X, rfl⟩
            have hX := BX.out.trans (X.below.mono BX.out.size)
            generalize X.val = wx at hX
            have BY := Lib.hid hX
            clear x0 x1 x2 x3 x4 x5 e9 pl
            go_wp2_with fail
            exact ⟨⟨x + 1, by go_num, by omega, by have := HN1.out; omega, BY⟩, by have := HN1.out; simp only [intOf]; simp; omega⟩
          · have hd2 : ¬ (x : Int) ≤ (n : Int) := by omega
            have FIN := Lib.hid (show ∃ (i : Nat) (p : Pg) (tk : List Bool) (A : Option Addr) (c : Nat), (Value.int .i64 (l1 : Int)) = .int .i64 i ∧ i ≤ tn ∧ Hid (GiveI n me tk p) ∧ Hid (PgBox wr g9 p.kind p.level p.id p.lsn p.next (.slice A p.rows.length c)) ∧ Hid (TextsAt wr (.slice A p.rows.length c) p.rows) ∧ Hid (wr.rowIs gt 4 n1 (fun k => .bool (tk.getD k false))) ∧ Hid (Below w.heap.size w wr) from ⟨l1, ⟨pa, pb, pc, pd, pe, rowsP⟩, tk, A, c, rfl, by have := HL1.out; omega, IV, Lib.hid (by simp only; rw [← HNP.out]; exact PB.out.below BX.out), Lib.hid (by simp only; rw [← HNP.out]; exact TT.out.below BX.out), Lib.hid (RR.out.below BX.out), Lib.hid (below_then BB.out BX.out)⟩)
            go_wp2_with fail
            exact ⟨FIN.out, by have := HL1.out; simp only [intOf]; simp; omega⟩
    · have hit2 : ¬ (i : Int) < (tn : Int) := by omega
      obtain ⟨hend, hchk⟩ := gives_end IV.out
      rw [← HN1.out] at hend
      have Z1 := Lib.hid fun W h => spaceIs_any ⟨pa, pb, pc, pd, pe, rowsP⟩ (.slice A np c) n1 W IV.out.2.1 h (map_wt IV.out.1).1
      rw [hend] at Z1
      have Z2 := Lib.hid fun W h => spaceCheck_any ⟨pa, pb, pc, pd, pe, rowsP⟩ (.slice A np c) W IV.out.2.1 h (map_wt IV.out.1).1
      rw [hchk] at Z2
      unfold pgV at Z1 Z2
      simp only at Z1 Z2
      have HW := Lib.hid HW0.out
      clear hend hchk RR HW0
      have B0 := BB
      have T0 := TT
      have P0 := PB
      generalize wr = w0 at *
      clear BB TT PB
      obtain ⟨x0, x1, x2, x3, x4, x5, x6⟩ := P0.out.cells
      go_wp2_with fail
      clear x0 x1 x2 x3 x4 x5 x6
      refine (Z2.out _ T0.out).mono ?_
      rintro e w1 ⟨rfl, hb⟩
      have B1 := Lib.hid (below_then B0.out hb)
      have T1 := Lib.hid (T0.out.below hb)
      have P1 := Lib.hid (P0.out.below hb)
      clear hb B0 T0 P0
      obtain ⟨x0, x1, x2, x3, x4, x5, x6⟩ := P1.out.cells
      go_wp2_with fail
      clear x0 x1 x2 x3 x4 x5 x6
      refine (Z1.out _ T1.out).mono ?_
      rintro e w2 ⟨rfl, hb⟩
      have B2 := Lib.hid (below_then B1.out hb)
      have T2 := Lib.hid (T1.out.below hb)
      have P2 := Lib.hid (P1.out.below hb)
      clear hb B1 T1 P1
      obtain ⟨x0, x1, x2, x3, x4, x5, x6⟩ := P2.out.cells
      go_wp2_with fail
      clear x0 x1 x2 x3 x4 x5 x6
      refine (AL.out _).mono ?_
      rintro e w3 ⟨rfl, hb⟩
      have B3 := Lib.hid (below_then B2.out hb)
      have T3 := Lib.hid (T2.out.below hb)
      have P3 := Lib.hid (P2.out.below hb)
      clear hb B2 T2 P2
      go_wp2_with fail
      go_ret
      exact ⟨rfl, by rw [HW.out]; exact B3.out⟩

end Go.Proofs.Ytienlhnbmobinaa
