/- chapter 16: a map with a patch done is a map; which pages a new map has; SameOp of an op and itself; works -/
import Derived.Test.YtienlhnbmobinaaRows
import Derived.Test.YtienlhnbmobinaaSpaceFree
import Derived.Test.YtienlhnbmobinaaSpaceCheck
import Derived.Test.YtienlhnbmobinaaOpApply
import Derived.Test.YtienlhnbmobinaaOpDoes
import Derived.Test.YtienlhnbmobinaaSpacePlain
import Derived.Test.YtienlhnbmobinaaOpPlain
import Derived.Test.YtienlhnbmobinaaPlains
import Derived.Test.YtienlhnbmobinaaBase
import Derived.Test.YtienlhnbmobinaaTextsP
import Derived.Test.YtienlhnbmobinaaSpaceNew
import Derived.Test.YtienlhnbmobinaaSpaceRefNew
import Derived.Test.YtienlhnbmobinaaOpWrite
import Derived.Test.YtienlhnbmobinaaSpaceHelp
import Derived.Test.YtienlhnbmobinaaSpaceRef
import Derived.Test.YtienlhnbmobinaaSpaceIs
import Derived.Test.YtienlhnbmobinaaSpaceOp
import Derived.Test.YtienlhnbmobinaaSpaceNums
import Derived.Test.YtienlhnbmobinaaSpaceAll
import Derived.Test.YtienlhnbmobinaaOpLaw
import Derived.Test.YtienlhnbmobinaaOpSame
import Derived.Test.YtienlhnbmobinaaOpPart
import Derived.WalkKit
import Derived.WalkLawsBesides
import Derived.WalkSpells
import Derived.LoopTactic
import Derived.WalkMore
import Derived.LoopN
import Derived.Laws.BitsAllLaws
import Derived.Laws.IdiomStrings
import Derived.BigQuiet
import Derived.Deep.QuietTactic
import Derived.Deep.DeepCutAuto
import Derived.Deep.RegionHeld3
import Derived.Deep.DrawnRows
import Derived.Lib.Hide
import Derived.Outline
import Derived.Deep.DeepMust
import Derived.Handy
namespace Go.Proofs.Ytienlhnbmobinaa
open Go.RowKit
set_option linter.unusedVariables false
set_option linter.unusedSimpArgs false

theorem map_may {p : Pg} (h : mapB p = true) : p.may = true := by
  unfold mapB at h
  exact (Bool.and_eq_true_iff.1 (Bool.and_eq_true_iff.1 (Bool.and_eq_true_iff.1 (Bool.and_eq_true_iff.1 h).1).1).1).1
theorem map_kind {p : Pg} (h : mapB p = true) : p.kind = 4 := by
  unfold mapB at h
  exact of_decide_eq_true (Bool.and_eq_true_iff.1 (Bool.and_eq_true_iff.1 (Bool.and_eq_true_iff.1 (Bool.and_eq_true_iff.1 h).1).1).1).2
theorem map_own {p : Pg} (h : mapB p = true) : bitB (mapRow p) (p.id - 1) = true := by
  unfold mapB at h
  exact (Bool.and_eq_true_iff.1 h).2
theorem map_mk {kind level id lsn next : Nat} {r : List UInt8} (hm : Pg.may ⟨kind, level, id, lsn, next, [r]⟩ = true) (hk : kind = 4) (hl : r.length = 128) (hb : bitB r (id - 1) = true) : mapB ⟨kind, level, id, lsn, next, [r]⟩ = true := by
  unfold mapB mapRow
  simp only [List.getD_cons_zero, List.length_singleton]
  rw [hm, hb, decide_eq_true hk, decide_eq_true hl]
  rfl
theorem may_same {kind level id lsn lsn' next : Nat} {r r' : List UInt8} (h : Pg.may ⟨kind, level, id, lsn, next, [r]⟩ = true) (hl : r'.length = r.length) : Pg.may ⟨kind, level, id, lsn', next, [r']⟩ = true := by
  unfold Pg.may at *
  simp only [weightB_cons, weightB_nil] at *
  rw [hl]
  exact h
theorem setB_one (r : List UInt8) (d : Nat) (y : UInt8) (h : d < r.length) : setB r d [y] = some (r.set d y) := by
  unfold setB
  rw [if_pos (by simp; omega), List.set_eq_take_append_cons_drop, if_pos h]
  simp
theorem patch_apply {p : Pg} (hm : mapB p = true) {n : Nat} (h1 : 1 ≤ n) (h2 : n ≤ 1024) (hne : n ≠ p.id) (lsn : Nat) :
    applyB p (patchO p n) lsn = (⟨p.kind, p.level, p.id, lsn, p.next, [flipAt (mapRow p) (n - 1)]⟩, 0) ∧ mapB ⟨p.kind, p.level, p.id, lsn, p.next, [flipAt (mapRow p) (n - 1)]⟩ = true := by
  have hmay := map_may hm
  have hkind := map_kind hm
  have hown := map_own hm
  have hlen := map_len hm.symm
  obtain ⟨r, hr⟩ := map_row hm.symm
  have hidr := may_id hmay.symm
  obtain ⟨kind, level, id, l0, next, rows⟩ := p
  simp only at hr hidr hkind hne
  subst hr
  simp only [mapRow, List.getD_cons_zero] at hown hlen ⊢
  have hd : (n - 1) / 8 < r.length := by omega
  have hmay2 : Pg.may ⟨kind, level, id, lsn, next, [flipAt r (n - 1)]⟩ = true := may_same hmay (flipAt_length _ _)
  refine ⟨?_, map_mk hmay2 hkind (by rw [flipAt_length]; exact hlen) ?_⟩
  · have hok : doOk ⟨kind, level, id, l0, next, [r]⟩ (patchO ⟨kind, level, id, l0, next, [r]⟩ n) = true := by
      unfold doOk
      rw [hmay]
      unfold patchO mapRow Od.may
      simp [Od.only, lensB]
      omega
    have hdo : doB ⟨kind, level, id, l0, next, [r]⟩ (patchO ⟨kind, level, id, l0, next, [r]⟩ n) = (⟨kind, level, id, l0, next, [flipAt r (n - 1)]⟩, 0) := by
      unfold doB patchO mapRow
      simp only [List.getD_cons_zero, List.length_singleton, Int.toNat_natCast, Int.toNat_zero]
      rw [if_pos (by omega), setB_one _ _ _ hd]
      simp [putRows, Pg.with, flipAt]
    unfold applyB
    rw [if_pos hok, hdo]
    simp only
    rw [if_pos trivial, if_pos (by unfold Pg.lsnTo; exact hmay2)]
    rfl
  · rw [bit_flip _ _ _ hd, if_neg (by omega)]
    exact hown

end Go.Proofs.Ytienlhnbmobinaa

namespace Go.Proofs.Ytienlhnbmobinaa
open Go.RowKit
set_option linter.unusedVariables false
set_option linter.unusedSimpArgs false

theorem bit_mark (l : List Nat) : ∀ (r : List UInt8) (k : Nat), r.length = 128 → k < 1024 → (∀ n ∈ l, 1 ≤ n ∧ n ≤ 1024) → bitB (markAll r l) k = (bitB r k || decide (k + 1 ∈ l)) := by
  induction l with
  | nil => intro r k hr hk h; simp [markAll]
  | cons n l ih =>
    intro r k hr hk h
    have hn := h n (by simp)
    show bitB (markAll (setAt r (n - 1) true) l) k = _
    rw [ih _ _ (by rw [setAt_length]; exact hr) hk (fun m hm => h m (List.mem_cons_of_mem _ hm)), bit_set _ _ _ _ (by omega)]
    by_cases hkn : k = n - 1
    · have e1 : k + 1 = n := by omega
      rw [if_pos hkn, e1]
      simp
    · have h2 : ¬ k + 1 = n := by omega
      rw [if_neg hkn]
      simp [h2]
theorem bit_zero (k : Nat) : bitB (List.replicate 128 0) k = false := by
  unfold bitB
  have : (List.replicate 128 (0 : UInt8)).getD (k / 8) 0 = 0 := by
    rw [List.getD_eq_getElem?_getD, List.getElem?_replicate]
    split <;> rfl
  rw [this]
  simp
theorem tail_mem {pages k n : Nat} : n ∈ tailL pages k ↔ pages + 1 ≤ n ∧ n < pages + 1 + k := by
  unfold tailL
  rw [List.mem_map]
  constructor
  · rintro ⟨a, ha, rfl⟩
    have := List.mem_range.1 ha
    omega
  · rintro ⟨h1, h2⟩
    exact ⟨n - (pages + 1), List.mem_range.2 (by omega), by omega⟩
theorem newRow_length (id pages : Nat) (ts : List Nat) : (newRow id pages ts).length = 128 := by unfold newRow; rw [markAll_length, markAll_length]; simp
theorem bit_new {id pages : Nat} {ts : List Nat} (h : newOk id (pages : Int) ts) {k : Nat} (hk : k < 1024) : bitB (newRow id pages ts) k = (decide (k + 1 ∈ id :: ts) || decide (pages ≤ k)) := by
  obtain ⟨h1, h2, h3⟩ := h
  unfold newRow
  rw [bit_mark _ _ _ (by rw [markAll_length]; simp) hk (fun n hn => by have := tail_mem.1 hn; omega), bit_mark _ _ _ (by simp) hk (fun n hn => by have := h3 n hn; omega), bit_zero, Bool.false_or]
  congr 1
  apply decide_eq_decide.2
  rw [tail_mem]
  omega
theorem new_map {id pages : Nat} {ts : List Nat} (h : newOk id (pages : Int) ts) : mapB ⟨4, 0, id, 0, 0, [newRow id pages ts]⟩ = true := by
  have h' := h
  obtain ⟨h1, h2, h3⟩ := h'
  have hid := h3 id (by simp)
  refine map_mk ?_ rfl (newRow_length _ _ _) ?_
  · unfold Pg.may
    rw [Bool.and_eq_true]
    refine ⟨(show headOk 4 id 0 = true from headOk_iff.2 ⟨by omega, by omega, by omega, by omega⟩), ?_⟩
    simp only [weightB_cons, weightB_nil]
    rw [newRow_length]
    rfl
  · rw [bit_new h (by omega), show id - 1 + 1 = id by omega]
    simp
theorem free_new {id pages : Nat} {ts : List Nat} (h : newOk id (pages : Int) ts) : freeL ⟨4, 0, id, 0, 0, [newRow id pages ts]⟩ = ((List.range 1024).filter fun k => !(decide (k + 1 ∈ id :: ts) || decide (pages ≤ k))).map (· + 1) := by
  unfold freeL
  rw [if_pos (new_map h)]
  refine congrArg (List.map (· + 1)) (List.filter_congr fun k hk => ?_)
  show (!bitB (newRow id pages ts) k) = _
  rw [bit_new h (List.mem_range.1 hk)]
theorem wP_ok : newOk 2 ((8 : Nat) : Int) [1] := by unfold newOk; decide
def wP : Pg := ⟨4, 0, 2, 0, 0, [newRow 2 8 [1]]⟩
def wQ : Pg := ⟨4, 0, 2, 1, 0, [flipAt (newRow 2 8 [1]) 2]⟩
theorem wP_new : newB 2 8 [1] = (wP, 0) := newB_yes wP_ok
theorem wP_map : mapB wP = true := new_map wP_ok
set_option maxRecDepth 100000 in
theorem wP_free : freeL wP = [3, 4, 5, 6, 7, 8] := by
  show freeL ⟨4, 0, 2, 0, 0, [newRow 2 8 [1]]⟩ = _
  rw [free_new wP_ok]
  decide +kernel
theorem w_apply (r : List UInt8) (h : mapB ⟨4, 0, 2, 0, 0, [r]⟩ = true) : applyB ⟨4, 0, 2, 0, 0, [r]⟩ (patchO ⟨4, 0, 2, 0, 0, [r]⟩ 3) 1 = (⟨4, 0, 2, 1, 0, [flipAt r 2]⟩, 0) ∧ mapB ⟨4, 0, 2, 1, 0, [flipAt r 2]⟩ = true :=
  patch_apply h (n := 3) (by omega) (by omega) (by show 3 ≠ 2; omega) 1
theorem wQ_apply : applyB wP (patchO wP 3) 1 = (wQ, 0) ∧ mapB wQ = true := by
  unfold wP wQ
  exact w_apply _ wP_map
set_option maxRecDepth 100000 in
theorem wQ_free : freeL wQ = [4, 5, 6, 7, 8] := by
  unfold freeL
  rw [if_pos wQ_apply.2]
  have : (List.range 1024).filter (fun k => !bitB (mapRow wQ) k) = (List.range 1024).filter (fun k => !(if k = 2 then true else (decide (k + 1 ∈ [2, 1]) || decide (8 ≤ k)))) := by
    apply List.filter_congr
    intro k hk
    have hk' := List.mem_range.1 hk
    show (!bitB (flipAt (newRow 2 8 [1]) 2) k) = _
    rw [bit_flip _ _ _ (by rw [newRow_length]; omega), bit_new wP_ok hk', bit_new wP_ok (by omega)]
    rfl
  rw [this]
  decide +kernel
theorem wP_alloc : allocB wP = (3, patchO wP 3, 0) := by unfold allocB; rw [if_pos wP_map, wP_free]
theorem wQ_alloc : allocB wQ = (4, patchO wQ 4, 0) := by unfold allocB; rw [if_pos wQ_apply.2, wQ_free]
theorem w_is (r : List UInt8) (h : mapB ⟨4, 0, 2, 0, 0, [r]⟩ = true) (hb : bitB r 8 = true) : isB ⟨4, 0, 2, 0, 0, [r]⟩ 9 = true := by
  unfold isB mapRow
  rw [h]
  simp [hb]
theorem wP_is : isB wP 9 = true := w_is _ wP_map (by rw [bit_new wP_ok (by omega)]; rfl)
theorem zero_chk : chkB Pg.zero = 60 := by decide +kernel
theorem patchO_wf {p : Pg} (hp : p.wf) {n : Nat} (h2 : n ≤ 1024) : (patchO p n).wf := by
  unfold Pg.wf at hp
  unfold patchO Od.wf
  simp only
  refine ⟨by omega, hp.2.2.1, by omega, by omega, by omega, by omega, by omega⟩
theorem patchO_small (p : Pg) (n : Nat) : (patchO p n).small := by
  unfold patchO Od.small
  simp
theorem map_wt {p : Pg} (h : mapB p = true) : weightB p.rows ≤ 1000000 ∧ p.rows.length ≤ 900000 := by
  obtain ⟨r, hr⟩ := map_row h.symm
  have hl := map_len h.symm
  rw [hr]
  unfold mapRow at hl
  rw [hr] at hl
  simp only [List.getD_cons_zero] at hl
  rw [weightB_cons, weightB_nil]
  simp
  omega

end Go.Proofs.Ytienlhnbmobinaa

namespace Go.Proofs.Ytienlhnbmobinaa
open Go.RowKit
set_option linter.unusedVariables false
set_option linter.unusedSimpArgs false

set_option maxHeartbeats 4000000 in
set_option maxRecDepth 100000 in
theorem sameOp_any (a : Od) (w : World) : Calls Try.prog 39 #[.agg #[.int .u8 a.kind, .int .u32 a.page, .int .i64 a.at_, .int .i64 a.off, .string ⟨a.text.toArray⟩, .slice none 0 0, .int .u8 a.pk, .int .u8 a.lv, .int .u32 a.nx], .agg #[.int .u8 a.kind, .int .u32 a.page, .int .i64 a.at_, .int .i64 a.off, .string ⟨a.text.toArray⟩, .slice none 0 0, .int .u8 a.pk, .int .u8 a.lv, .int .u32 a.nx]] w fun e w' => e = .returned (.bool true) ∧ Below w.heap.size w w' := by
  obtain ⟨kind, page, at_, off, text, rows, pk, lv, nx⟩ := a
  simp only
  have OA := Lib.hid (OAt.new w ⟨kind, page, at_, off, text, rows, pk, lv, nx⟩ (.slice none 0 0))
  have b0 := alloc_below w (.cells #[.int .u8 kind, .int .u32 page, .int .i64 at_, .int .i64 off, .string ⟨text.toArray⟩, .slice none 0 0, .int .u8 pk, .int .u8 lv, .int .u32 nx] 28)
  have OB := Lib.hid (OAt.new (w.alloc (.cells #[.int .u8 kind, .int .u32 page, .int .i64 at_, .int .i64 off, .string ⟨text.toArray⟩, .slice none 0 0, .int .u8 pk, .int .u8 lv, .int .u32 nx] 28)) ⟨kind, page, at_, off, text, rows, pk, lv, nx⟩ (.slice none 0 0))
  have OA2 := Lib.hid (OA.out.keep (.cells #[.int .u8 kind, .int .u32 page, .int .i64 at_, .int .i64 off, .string ⟨text.toArray⟩, .slice none 0 0, .int .u8 pk, .int .u8 lv, .int .u32 nx] 28))
  have B0 := Lib.hid (b0.alloc b0.size (.cells #[.int .u8 kind, .int .u32 page, .int .i64 at_, .int .i64 off, .string ⟨text.toArray⟩, .slice none 0 0, .int .u8 pk, .int .u8 lv, .int .u32 nx] 28))
  rw [World.size_alloc] at OB
  simp only at OB OA2
  have e0 : ((kind : Int) == (kind : Int)) = true := by simp
  have e1 : ((page : Int) == (page : Int)) = true := by simp
  have e2 : (at_ == at_) = true := by simp
  have e3 : (off == off) = true := by simp
  have e4 : (text == text) = true := by simp
  have e5 : ((pk : Int) == (pk : Int)) = true := by simp
  have e6 : ((lv : Int) == (lv : Int)) = true := by simp
  have e7 : ((nx : Int) == (nx : Int)) = true := by simp
  clear b0 OA
  go_enter Try.func39, Try.ntmps39
  go_upto_region 1 with fail
  generalize (w.alloc (.cells #[.int .u8 kind, .int .u32 page, .int .i64 at_, .int .i64 off, .string ⟨text.toArray⟩, .slice none 0 0, .int .u8 pk, .int .u8 lv, .int .u32 nx] 28)).alloc (.cells #[.int .u8 kind, .int .u32 page, .int .i64 at_, .int .i64 off, .string ⟨text.toArray⟩, .slice none 0 0, .int .u8 pk, .int .u8 lv, .int .u32 nx] 28) = w0 at *
  obtain ⟨x0, x1, x2, x3, x4, x5, x6, x7, x8⟩ := OA2.out.cells
  obtain ⟨y0, y1, y2, y3, y4, y5, y6, y7, y8⟩ := OB.out.cells
  simp only at x0 x1 x2 x3 x4 x5 x6 x7 x8 y0 y1 y2 y3 y4 y5 y6 y7 y8
  go_wp2_with fail
  go_loopw [5] (fun s5 wr => s5 = .int .i64 0 ∧ wr = w0) (fun _ _ => 0)
  case atStart => exact ⟨rfl, rfl⟩
  case round =>
    obtain ⟨rfl, rfl⟩ := hrel
    go_wp2_with fail
    go_ret
    exact ⟨rfl, B0.out⟩
set_option maxHeartbeats 4000000 in
set_option maxRecDepth 100000 in
theorem works16_any (w : World) : Calls Try.prog 25 #[] w fun e w' => e = .returned (.bool true) ∧ Below w.heap.size w w' := by
  have hwf : wP.wf := by unfold wP Pg.wf; simp
  have hwf2 : wQ.wf := by unfold wQ Pg.wf; simp
  have CN := Lib.hid fun tv W (h : N32At W tv [1]) => spaceNew_any 2 8 tv [1] W (by omega) (by omega) h (by simp) (by simp)
  rw [show newB 2 8 [1] = (wP, 0) from wP_new] at CN
  have CA := Lib.hid fun sv W (h : TextsAt W sv wP.rows) => spaceAlloc_any wP sv W hwf h (map_wt wP_map).1
  have CI := Lib.hid fun sv W (h : TextsAt W sv wP.rows) => spaceIs_any wP sv 9 W hwf h (map_wt wP_map).1
  have CL := Lib.hid fun sv W (h : TextsAt W sv wP.rows) => spaceAll_any wP sv W hwf h (map_wt wP_map).1
  have CP := Lib.hid fun sv tv W (h : TextsAt W sv wP.rows) (hu : TextsAt W tv (patchO wP 3).rows) => opApply_any wP (patchO wP 3) sv tv 1 W h hu hwf (patchO_wf hwf (by omega)) (patchO_small _ _) (by omega) (map_wt wP_map).1 (map_wt wP_map).2
  have CQ := Lib.hid fun sv W (h : TextsAt W sv wQ.rows) => spaceAlloc_any wQ sv W hwf2 h (map_wt wQ_apply.2).1
  have CZ := Lib.hid fun W => spaceCheck_any Pg.zero (.slice none 0 0) W (by unfold Pg.zero Pg.wf; simp) (TextsAt.nil W) (by decide)
  rw [wP_alloc] at CA
  rw [wP_is] at CI
  rw [wP_free] at CL
  rw [wQ_apply.1] at CP
  rw [wQ_alloc] at CQ
  rw [zero_chk] at CZ
  obtain ⟨od, hod⟩ : ∃ o, o = patchO wP 3 := ⟨_, rfl⟩
  obtain ⟨oq, hoq⟩ : ∃ o, o = patchO wQ 4 := ⟨_, rfl⟩
  have hor : od.rows = [] := by rw [hod]; rfl
  rw [← hod] at CA CP
  rw [← hoq] at CQ
  rw [hor] at CP
  obtain ⟨⟨pa, pb, pc, pd, pe, rowsP⟩, hP⟩ : ∃ P, P = wP := ⟨_, rfl⟩
  obtain ⟨⟨qa, qb, qc, qd, qe, rowsQ⟩, hQ⟩ : ∃ P, P = wQ := ⟨_, rfl⟩
  rw [← hP] at CN CA CI CL CP
  rw [← hQ] at CP CQ
  clear hP hQ hod hoq hwf hwf2 hor
  unfold pgV at CA CI CL CP CQ CZ
  unfold odV at CA CP CQ
  simp only [Pg.zero] at CA CI CL CP CQ CZ
  obtain ⟨o0, o1, o2, o3, o4, o5, o6, o7, o8⟩ := od
  obtain ⟨q0, q1, q2, q3, q4, q5, q6, q7, q8⟩ := oq
  simp only at CA CP CQ
  have B0 := Lib.hid (alloc_below w (.cells #[.int .u32 1] 22))
  have N0 := Lib.hid (n32_own (own_one32 (base := 0) w 1 (Nat.zero_le _))).1
  go_enter Try.func25, Try.ntmps25
  go_upto_region 1 with fail
  go_wp2_with fail
  refine (CN.out _ _ N0.out).mono ?_
  rintro e w1 ⟨sv1, rfl, G, hb⟩
  simp only at G
  obtain ⟨np, hnp⟩ : ∃ z, z = rowsP.length := ⟨_, rfl⟩
  have Hnp := Lib.hid hnp
  clear hnp
  have T1 := Lib.hid G
  obtain ⟨A1, cp1, hv1, _, _, _, _⟩ := G
  rw [← Hnp.out] at hv1
  subst hv1
  have B1 := Lib.hid (B0.out.trans (hb.mono B0.out.size))
  clear hb B0 N0
  unfold pgV
  simp only
  go_upto_region 2 with fail
  have BN := Lib.hid (alloc_below w1 (.cells #[.int .u8 pa, .int .u8 pb, .int .u32 pc, .int .u64 pd, .int .u32 pe, .slice A1 np cp1] 26))
  have P2 := Lib.hid (PgBox.new w1 pa pb pc pd pe (.slice A1 np cp1))
  generalize w1.alloc (.cells #[.int .u8 pa, .int .u8 pb, .int .u32 pc, .int .u64 pd, .int .u32 pe, .slice A1 np cp1] 26) = w2 at *
  have hb := BN.out
  clear BN
  have B2 := Lib.hid (below_then B1.out hb)
  have T2 := Lib.hid (T1.out.below hb)
  clear hb B1 T1
  obtain ⟨x0, x1, x2, x3, x4, x5, x6⟩ := P2.out.cells
  go_wp2_with fail
  clear x0 x1 x2 x3 x4 x5 x6
  refine (CA.out _ _ T2.out).mono ?_
  rintro e w3 ⟨rfl, hb⟩
  have B3 := Lib.hid (below_then B2.out hb)
  have T3 := Lib.hid (T2.out.below hb)
  have P3 := Lib.hid (P2.out.below hb)
  clear hb B2 T2 P2
  obtain ⟨x0, x1, x2, x3, x4, x5, x6⟩ := P3.out.cells
  (try unfold odV)
  (try simp only)
  go_upto_region 3 with fail
  clear x0 x1 x2 x3 x4 x5 x6
  have BN := Lib.hid (alloc_below w3 (.cells #[.int .u8 o0, .int .u32 o1, .int .i64 o2, .int .i64 o3, .string ⟨o4.toArray⟩, .slice none 0 0, .int .u8 o6, .int .u8 o7, .int .u32 o8] 28))
  have O4 := Lib.hid (OAt.new w3 ⟨o0, o1, o2, o3, o4, o5, o6, o7, o8⟩ (.slice none 0 0))
  generalize w3.alloc (.cells #[.int .u8 o0, .int .u32 o1, .int .i64 o2, .int .i64 o3, .string ⟨o4.toArray⟩, .slice none 0 0, .int .u8 o6, .int .u8 o7, .int .u32 o8] 28) = w4 at *
  have hb := BN.out
  clear BN
  have B4 := Lib.hid (below_then B3.out hb)
  have T4 := Lib.hid (T3.out.below hb)
  have P4 := Lib.hid (P3.out.below hb)
  clear hb B3 T3 P3
  obtain ⟨x0, x1, x2, x3, x4, x5, x6⟩ := P4.out.cells
  obtain ⟨y0, y1, y2, y3, y4, y5, y6, y7, y8⟩ := O4.out.cells
  simp only at y0 y1 y2 y3 y4 y5 y6 y7 y8
  have y9 := blk_lt O4.out
  go_wp2_with fail
  clear x0 x1 x2 x3 x4 x5 x6 y0 y1 y2 y3 y4 y5 y6 y7 y8 y9
  refine (CP.out _ _ _ T4.out (TextsAt.nil _)).mono ?_
  rintro e w5 ⟨sv5, rfl, G, hb⟩
  simp only at G
  obtain ⟨nq, hnq⟩ : ∃ z, z = rowsQ.length := ⟨_, rfl⟩
  have Hnq := Lib.hid hnq
  clear hnq
  have U5 := Lib.hid G
  obtain ⟨A5, cp5, hv5, _, _, _, _⟩ := G
  rw [← Hnq.out] at hv5
  subst hv5
  have B5 := Lib.hid (below_then B4.out hb)
  have T5 := Lib.hid (T4.out.below hb)
  have P5 := Lib.hid (P4.out.below hb)
  have O5 := Lib.hid (O4.out.below hb)
  clear hb B4 T4 P4 O4
  obtain ⟨x0, x1, x2, x3, x4, x5, x6⟩ := P5.out.cells
  obtain ⟨y0, y1, y2, y3, y4, y5, y6, y7, y8⟩ := O5.out.cells
  simp only at y0 y1 y2 y3 y4 y5 y6 y7 y8
  have y9 := blk_lt O5.out
  unfold pgV
  simp only
  go_upto_region 4 with fail
  clear x0 x1 x2 x3 x4 x5 x6 y0 y1 y2 y3 y4 y5 y6 y7 y8 y9
  have BN := Lib.hid (alloc_below w5 (.cells #[.int .u8 qa, .int .u8 qb, .int .u32 qc, .int .u64 qd, .int .u32 qe, .slice A5 nq cp5] 26))
  have Q6 := Lib.hid (PgBox.new w5 qa qb qc qd qe (.slice A5 nq cp5))
  generalize w5.alloc (.cells #[.int .u8 qa, .int .u8 qb, .int .u32 qc, .int .u64 qd, .int .u32 qe, .slice A5 nq cp5] 26) = w6 at *
  have hb := BN.out
  clear BN
  have B6 := Lib.hid (below_then B5.out hb)
  have T6 := Lib.hid (T5.out.below hb)
  have P6 := Lib.hid (P5.out.below hb)
  have O6 := Lib.hid (O5.out.below hb)
  have U6 := Lib.hid (U5.out.below hb)
  clear hb B5 T5 P5 O5 U5
  obtain ⟨x0, x1, x2, x3, x4, x5, x6⟩ := P6.out.cells
  obtain ⟨y0, y1, y2, y3, y4, y5, y6, y7, y8⟩ := O6.out.cells
  simp only at y0 y1 y2 y3 y4 y5 y6 y7 y8
  have y9 := blk_lt O6.out
  obtain ⟨z0, z1, z2, z3, z4, z5, z6⟩ := Q6.out.cells
  go_wp2_with fail
  clear x0 x1 x2 x3 x4 x5 x6 y0 y1 y2 y3 y4 y5 y6 y7 y8 y9 z0 z1 z2 z3 z4 z5 z6
  refine (CQ.out _ _ U6.out).mono ?_
  rintro e w7 ⟨rfl, hb⟩
  have B7 := Lib.hid (below_then B6.out hb)
  have T7 := Lib.hid (T6.out.below hb)
  have P7 := Lib.hid (P6.out.below hb)
  have O7 := Lib.hid (O6.out.below hb)
  have U7 := Lib.hid (U6.out.below hb)
  have Q7 := Lib.hid (Q6.out.below hb)
  clear hb B6 T6 P6 O6 U6 Q6
  obtain ⟨x0, x1, x2, x3, x4, x5, x6⟩ := P7.out.cells
  obtain ⟨y0, y1, y2, y3, y4, y5, y6, y7, y8⟩ := O7.out.cells
  simp only at y0 y1 y2 y3 y4 y5 y6 y7 y8
  have y9 := blk_lt O7.out
  obtain ⟨z0, z1, z2, z3, z4, z5, z6⟩ := Q7.out.cells
  (try unfold odV)
  (try simp only)
  go_upto_region 5 with fail
  clear x0 x1 x2 x3 x4 x5 x6 y0 y1 y2 y3 y4 y5 y6 y7 y8 y9 z0 z1 z2 z3 z4 z5 z6
  have BN := Lib.hid (alloc_below w7 (.cells #[.int .u8 q0, .int .u32 q1, .int .i64 q2, .int .i64 q3, .string ⟨q4.toArray⟩, .slice none 0 0, .int .u8 q6, .int .u8 q7, .int .u32 q8] 28))
  have OQ8 := Lib.hid (OAt.new w7 ⟨q0, q1, q2, q3, q4, q5, q6, q7, q8⟩ (.slice none 0 0))
  generalize w7.alloc (.cells #[.int .u8 q0, .int .u32 q1, .int .i64 q2, .int .i64 q3, .string ⟨q4.toArray⟩, .slice none 0 0, .int .u8 q6, .int .u8 q7, .int .u32 q8] 28) = w8 at *
  have hb := BN.out
  clear BN
  have B8 := Lib.hid (below_then B7.out hb)
  have T8 := Lib.hid (T7.out.below hb)
  have P8 := Lib.hid (P7.out.below hb)
  have O8 := Lib.hid (O7.out.below hb)
  have U8 := Lib.hid (U7.out.below hb)
  have Q8 := Lib.hid (Q7.out.below hb)
  clear hb B7 T7 P7 O7 U7 Q7
  obtain ⟨x0, x1, x2, x3, x4, x5, x6⟩ := P8.out.cells
  obtain ⟨y0, y1, y2, y3, y4, y5, y6, y7, y8⟩ := O8.out.cells
  simp only at y0 y1 y2 y3 y4 y5 y6 y7 y8
  have y9 := blk_lt O8.out
  obtain ⟨z0, z1, z2, z3, z4, z5, z6⟩ := Q8.out.cells
  obtain ⟨v0, v1, v2, v3, v4, v5, v6, v7, v8⟩ := OQ8.out.cells
  simp only at v0 v1 v2 v3 v4 v5 v6 v7 v8
  have v9 := blk_lt OQ8.out
  go_wp2_with fail
  clear x0 x1 x2 x3 x4 x5 x6 y0 y1 y2 y3 y4 y5 y6 y7 y8 y9 z0 z1 z2 z3 z4 z5 z6 v0 v1 v2 v3 v4 v5 v6 v7 v8 v9
  refine (CL.out _ _ T8.out).mono ?_
  rintro e w9 ⟨vL, rfl, hN, hb⟩
  obtain ⟨AL, cL, hvL, n2, n3, n4, n5⟩ := hN
  subst hvL
  obtain ⟨bL, oL, hAL, hbL, hcL⟩ := n5 (by simp)
  subst hAL
  have c0 := hcL 0 (by simp)
  have c5 := hcL 5 (by simp)
  simp only [List.length_cons, List.length_nil, Nat.reduceAdd] at n2 c0 c5 ⊢
  have C0 := Lib.hid c0
  have C5 := Lib.hid c5
  clear c0 c5 hcL n5 n4
  have B9 := Lib.hid (below_then B8.out hb)
  have T9 := Lib.hid (T8.out.below hb)
  have P9 := Lib.hid (P8.out.below hb)
  have O9 := Lib.hid (O8.out.below hb)
  have U9 := Lib.hid (U8.out.below hb)
  have Q9 := Lib.hid (Q8.out.below hb)
  have OQ9 := Lib.hid (OQ8.out.below hb)
  clear hb B8 T8 P8 O8 U8 Q8 OQ8
  obtain ⟨x0, x1, x2, x3, x4, x5, x6⟩ := P9.out.cells
  obtain ⟨y0, y1, y2, y3, y4, y5, y6, y7, y8⟩ := O9.out.cells
  simp only at y0 y1 y2 y3 y4 y5 y6 y7 y8
  have y9 := blk_lt O9.out
  obtain ⟨z0, z1, z2, z3, z4, z5, z6⟩ := Q9.out.cells
  obtain ⟨v0, v1, v2, v3, v4, v5, v6, v7, v8⟩ := OQ9.out.cells
  simp only at v0 v1 v2 v3 v4 v5 v6 v7 v8
  have v9 := blk_lt OQ9.out
  have c0 := C0.out
  have c5 := C5.out
  simp only [List.getElem_cons_zero, List.getElem_cons_succ, Nat.add_zero] at c0 c5
  go_wp2_with fail
  clear x0 x1 x2 x3 x4 x5 x6 y0 y1 y2 y3 y4 y5 y6 y7 y8 y9 z0 z1 z2 z3 z4 z5 z6 v0 v1 v2 v3 v4 v5 v6 v7 v8 v9
  refine (CI.out _ _ T9.out).mono ?_
  rintro e w10 ⟨rfl, hb⟩
  clear c0 c5
  have B10 := Lib.hid (below_then B9.out hb)
  have T10 := Lib.hid (T9.out.below hb)
  have P10 := Lib.hid (P9.out.below hb)
  have O10 := Lib.hid (O9.out.below hb)
  have U10 := Lib.hid (U9.out.below hb)
  have Q10 := Lib.hid (Q9.out.below hb)
  have OQ10 := Lib.hid (OQ9.out.below hb)
  clear hb B9 T9 P9 O9 U9 Q9 OQ9
  go_wp2_with fail
  refine (CZ.out _).mono ?_
  rintro e w11 ⟨rfl, hb⟩
  have B11 := Lib.hid (below_then B10.out hb)
  have T11 := Lib.hid (T10.out.below hb)
  have P11 := Lib.hid (P10.out.below hb)
  have O11 := Lib.hid (O10.out.below hb)
  have U11 := Lib.hid (U10.out.below hb)
  have Q11 := Lib.hid (Q10.out.below hb)
  have OQ11 := Lib.hid (OQ10.out.below hb)
  clear hb B10 T10 P10 O10 U10 Q10 OQ10
  go_wp2_with fail
  go_ret
  exact ⟨rfl, B11.out⟩

end Go.Proofs.Ytienlhnbmobinaa
