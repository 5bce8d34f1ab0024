/- Kept of our texts for this claim: SegLaw SegRef SegCmp -/
import Derived.Test.YtienlhnbmobinaaGreatRows
import Derived.Test.YtienlhnbmobinaaGreatAdAs
import Derived.Test.YtienlhnbmobinaaGreatAdAw
import Derived.Test.YtienlhnbmobinaaGreatAdAy
import Derived.Test.YtienlhnbmobinaaGreatAdAu
import Derived.Test.YtienlhnbmobinaaGreatAdAn
import Derived.Test.YtienlhnbmobinaaGreatAdAk
import Derived.Test.YtienlhnbmobinaaGreatAdAr
import Derived.Test.YtienlhnbmobinaaGreatAdAa
import Derived.Test.YtienlhnbmobinaaGreatAdAb
import Derived.Test.YtienlhnbmobinaaGreatAdAc
import Derived.WalkKit
import Derived.WalkLawsBesides
import Derived.WalkSpells
import Derived.LoopTactic
import Derived.WalkMore
import Derived.LoopN
import Derived.Laws.BitsAllLaws
import Derived.Laws.IdiomStrings
import Derived.BigQuiet
import Derived.Deep.QuietTactic
import Derived.Deep.DeepCutAuto
import Derived.Deep.RegionHeld3
import Derived.Deep.DrawnRows
import Derived.Lib.Hide
import Derived.Outline
import Derived.Deep.DeepMust
import Derived.Handy
import Derived.Test.YtienlhnbmobinaaGreatAdAt
import Derived.Test.YtienlhnbmobinaaGreatAdAq
import Derived.Test.YtienlhnbmobinaaGreatAdAl
import Derived.Deep.CutBlock
section
/- chapter 22: plain laws: what a head page is with an op done; what is found, the history; room -/
namespace Go.Proofs.YtienlhnbmobinaaGreat
open Go.RowKit
set_option linter.unusedVariables false
set_option linter.unusedSimpArgs false
theorem weight_enc (L : List Sg) : weightB (L.map Sg.enc) = 35 * L.length := by
  induction L with
  | nil => rfl
  | cons a L ih => rw [List.map_cons, weightB_cons, ih, sg_len, List.length_cons]; omega
theorem putRows_map (L : List Sg) (i : Nat) (s : Sg) (b : Bool) : putRows (L.map Sg.enc) i s.enc b = (L.take i ++ s :: L.drop (if b then i + 1 else i)).map Sg.enc := by
  unfold putRows
  rw [List.map_append, List.map_cons, List.map_take, List.map_drop]
/-- A head page of just these rows. -/
def SegP (p : Pg) (L : List Sg) : Prop := p.wf ∧ p.kind = 5 ∧ headOk p.kind p.id p.next = true ∧ p.rows = L.map Sg.enc ∧ (∀ s ∈ L, s.may = true ∧ s.wf) ∧ L.Pairwise (fun a b => a.tx < b.tx) ∧ L.length ≤ 13
theorem SegP.may {p : Pg} {L : List Sg} (h : SegP p L) : p.may = true := by
  obtain ⟨_, _, h3, h4, _, _, h7⟩ := h
  unfold Pg.may
  rw [h3, h4, weight_enc, Bool.true_and]
  exact decide_eq_true (by omega)
theorem SegP.to {p : Pg} {L : List Sg} (h : SegP p L) : segsB p = some L := by
  have hm := h.may
  obtain ⟨_, h2, _, h4, h5, h6, _⟩ := h
  unfold segsB
  rw [if_pos ⟨h2, hm⟩, h4]
  exact segGo_enc h5 (fun s hs => sg_tx (h5 s hs).1) h6
theorem SegP.room {p : Pg} {L : List Sg} (h : SegP p L) : roomB p.rows < 31 ↔ L.length = 13 := by
  obtain ⟨_, _, _, h4, _, _, h7⟩ := h
  unfold roomB
  rw [h4, weight_enc]
  split <;> omega
theorem seg_take {L : List Sg} {tx : Nat} : ∀ s ∈ L.take (segAt L tx), s.tx < tx := by
  intro s hs
  obtain ⟨i, hi, rfl⟩ := List.mem_take_iff_getElem.1 hs
  exact segAt_ahead (by omega) (by omega)
theorem seg_drop_gt {L : List Sg} {tx : Nat} (hp : L.Pairwise (fun a b => a.tx < b.tx)) : ∀ s ∈ L.drop (segAt L tx + 1), tx < s.tx := by
  intro s hs
  have hlt : segAt L tx < L.length := by
    apply Nat.lt_of_not_le
    intro hle
    rw [List.drop_of_length_le (by omega)] at hs
    cases hs
  have h0 := segAt_here hlt
  have hq : (L.drop (segAt L tx)).Pairwise (fun a b => a.tx < b.tx) := hp.sublist (List.drop_sublist _ _)
  rw [List.drop_eq_getElem_cons hlt] at hq
  have := (List.pairwise_cons.1 hq).1 s hs
  omega
theorem seg_drop_no {L : List Sg} {tx : Nat} (hp : L.Pairwise (fun a b => a.tx < b.tx)) (hn : segIs L tx = false) : ∀ s ∈ L.drop (segAt L tx), tx < s.tx := by
  intro s hs
  have hlt : segAt L tx < L.length := by
    apply Nat.lt_of_not_le
    intro hle
    rw [List.drop_of_length_le hle] at hs
    cases hs
  rw [segIs_eq hlt] at hn
  have h0 := segAt_here hlt
  have hne := of_decide_eq_false hn
  rw [List.drop_eq_getElem_cons hlt] at hs
  rcases List.mem_cons.1 hs with rfl | hs
  · omega
  · exact seg_drop_gt hp s hs
theorem seg_mid {A B : List Sg} {s : Sg} {L : List Sg} (hp : L.Pairwise (fun a b => a.tx < b.tx)) (hA : List.Sublist A L) (hB : List.Sublist B L) (h1 : ∀ a ∈ A, a.tx < s.tx) (h2 : ∀ b ∈ B, s.tx < b.tx) : (A ++ s :: B).Pairwise (fun a b => a.tx < b.tx) := by
  rw [List.pairwise_append]
  refine ⟨hp.sublist hA, List.pairwise_cons.2 ⟨h2, hp.sublist hB⟩, ?_⟩
  intro a ha b hb
  rcases List.mem_cons.1 hb with rfl | hb
  · exact h1 a ha
  · have := h1 a ha
    have := h2 b hb
    omega
/-- The rows with one put, or set. -/
def segWith (L : List Sg) (s : Sg) : List Sg := L.take (segAt L s.tx) ++ s :: L.drop (if segIs L s.tx then segAt L s.tx + 1 else segAt L s.tx)
theorem segWith_mem {L : List Sg} {s x : Sg} (hp : L.Pairwise (fun a b => a.tx < b.tx)) : x ∈ segWith L s ↔ x = s ∨ (x ∈ L ∧ x.tx ≠ s.tx) := by
  unfold segWith
  rw [List.mem_append, List.mem_cons]
  cases hb : segIs L s.tx with
  | true =>
    have hlt := segIs_lt hb
    rw [if_pos rfl]
    have hx := hb
    rw [segIs_eq hlt, decide_eq_true_eq] at hx
    constructor
    · rintro (h | rfl | h)
      · exact .inr ⟨List.mem_of_mem_take h, by have := seg_take x h; omega⟩
      · exact .inl rfl
      · exact .inr ⟨List.mem_of_mem_drop h, by have := seg_drop_gt hp x h; omega⟩
    · rintro (rfl | ⟨h, hne⟩)
      · exact .inr (.inl rfl)
      · rw [← List.take_append_drop (segAt L s.tx) L, List.drop_eq_getElem_cons hlt, List.mem_append, List.mem_cons] at h
        rcases h with h | rfl | h
        · exact .inl h
        · exact absurd hx hne
        · exact .inr (.inr h)
  | false =>
    rw [if_neg (by simp)]
    constructor
    · rintro (h | rfl | h)
      · exact .inr ⟨List.mem_of_mem_take h, by have := seg_take x h; omega⟩
      · exact .inl rfl
      · exact .inr ⟨List.mem_of_mem_drop h, by have := seg_drop_no hp hb x h; omega⟩
    · rintro (rfl | ⟨h, hne⟩)
      · exact .inr (.inl rfl)
      · rw [← List.take_append_drop (segAt L s.tx) L, List.mem_append] at h
        rcases h with h | h
        · exact .inl h
        · exact .inr (.inr h)
theorem segWith_pair {L : List Sg} {s : Sg} (hp : L.Pairwise (fun a b => a.tx < b.tx)) : (segWith L s).Pairwise (fun a b => a.tx < b.tx) := by
  unfold segWith
  refine seg_mid hp (List.take_sublist _ _) (List.drop_sublist _ _) (fun a ha => seg_take a ha) ?_
  cases hb : segIs L s.tx with
  | true => exact fun b hbm => seg_drop_gt hp b hbm
  | false => exact fun b hbm => seg_drop_no hp hb b hbm
theorem segWith_len {L : List Sg} {s : Sg} : (segWith L s).length = if segIs L s.tx then L.length else L.length + 1 := by
  unfold segWith
  have := segAt_le L s.tx
  cases hb : segIs L s.tx with
  | true =>
    have hlt := segIs_lt hb
    simp
    omega
  | false => simp; omega
theorem seg_is_yes {L : List Sg} {tx : Nat} (h : segIs L tx = true) : ∃ s ∈ L, s.tx = tx ∧ L.getD (segAt L tx) Sg.zero = s := by
  have hlt := segIs_lt h
  rw [segIs_eq hlt, decide_eq_true_eq] at h
  refine ⟨_, List.getElem_mem hlt, h, ?_⟩
  rw [List.getD_eq_getElem?_getD, List.getElem?_eq_getElem hlt]
  rfl
theorem od_may_seg {p : Pg} {L : List Sg} (h : SegP p L) {k : Nat} (hk : k = 2 ∨ k = 3) {i : Nat} (hi : i ≤ 13) {t : List UInt8} (ht : t.length = 31) : Od.may ⟨k, p.id, (i : Nat), 0, t, [], 0, 0, 0⟩ = true := by
  have hh := headOk_iff.1 h.2.2.1
  unfold Od.may
  rw [Bool.and_eq_true_iff, Bool.and_eq_true_iff, Bool.and_eq_true_iff]
  refine ⟨decide_eq_true ?_, decide_eq_true ?_, decide_eq_true ?_, decide_eq_true ?_⟩
  · refine ⟨?_, ?_, ?_, ?_, ?_, ?_⟩ <;> simp only <;> omega
  · refine ⟨?_, ?_, ?_, ?_, ?_⟩ <;> simp <;> omega
  · simp only [lensB_nil]; omega
  · rcases hk with rfl | rfl <;> rfl
theorem segP_next {p : Pg} {L L' : List Sg} (h : SegP p L) {lsn : Nat} (hl : lsn < 256 ^ 8) (h1 : ∀ s ∈ L', s.may = true ∧ s.wf) (h2 : L'.Pairwise (fun a b => a.tx < b.tx)) (h3 : L'.length ≤ 13) : SegP ⟨p.kind, p.level, p.id, lsn, p.next, L'.map Sg.enc⟩ L' := by
  obtain ⟨⟨a, b, c, d, e⟩, hk, hh, _⟩ := h
  exact ⟨⟨a, b, c, hl, e⟩, hk, hh, rfl, h1, h2, h3⟩
theorem apply_seg {p : Pg} {L L' : List Sg} {o : Od} {lsn : Nat} (h : SegP p L) (hl : lsn < 256 ^ 8) (ho : o.may = true) (hpg : o.page = p.id) (hd : doB p o = (p.with (L'.map Sg.enc), 0)) (h1 : ∀ s ∈ L', s.may = true ∧ s.wf) (h2 : L'.Pairwise (fun a b => a.tx < b.tx)) (h3 : L'.length ≤ 13) :
    applyB p o lsn = (⟨p.kind, p.level, p.id, lsn, p.next, L'.map Sg.enc⟩, 0) ∧ SegP ⟨p.kind, p.level, p.id, lsn, p.next, L'.map Sg.enc⟩ L' := by
  have hq := segP_next h hl h1 h2 h3
  refine ⟨?_, hq⟩
  unfold applyB doOk
  rw [ho, h.may, hpg, hd, if_pos (by simp), if_pos rfl, if_pos (by exact hq.may)]
  rfl
theorem apply_put {p : Pg} {L : List Sg} {s : Sg} {lsn : Nat} (h : SegP p L) (hl : lsn < 256 ^ 8) (hm : s.may = true) (hw : s.wf) (hn : segIs L s.tx = false) (hr : L.length < 13) :
    applyB p ⟨2, p.id, (segAt L s.tx : Nat), 0, s.enc, [], 0, 0, 0⟩ lsn = (⟨p.kind, p.level, p.id, lsn, p.next, (segWith L s).map Sg.enc⟩, 0) ∧ SegP ⟨p.kind, p.level, p.id, lsn, p.next, (segWith L s).map Sg.enc⟩ (segWith L s) := by
  have hp := h.2.2.2.2.2.1
  have hle := segAt_le L s.tx
  refine apply_seg h hl (od_may_seg h (.inl rfl) (by omega) (sg_len s)) rfl ?_ ?_ (segWith_pair hp) (by rw [segWith_len, hn]; simp; omega)
  · unfold doB
    simp only [Int.toNat_natCast]
    rw [h.2.2.2.1, List.length_map, if_pos hle, putRows_map]
    unfold segWith
    rw [hn]
  · intro x hx
    rcases (segWith_mem hp).1 hx with rfl | ⟨hx, _⟩
    · exact ⟨hm, hw⟩
    · exact h.2.2.2.2.1 x hx
theorem apply_set {p : Pg} {L : List Sg} {s : Sg} {lsn : Nat} (h : SegP p L) (hl : lsn < 256 ^ 8) (hm : s.may = true) (hw : s.wf) (hn : segIs L s.tx = true) :
    applyB p ⟨3, p.id, (segAt L s.tx : Nat), 0, s.enc, [], 0, 0, 0⟩ lsn = (⟨p.kind, p.level, p.id, lsn, p.next, (segWith L s).map Sg.enc⟩, 0) ∧ SegP ⟨p.kind, p.level, p.id, lsn, p.next, (segWith L s).map Sg.enc⟩ (segWith L s) := by
  have hp := h.2.2.2.2.2.1
  have hlt := segIs_lt hn
  have h13 := h.2.2.2.2.2.2
  refine apply_seg h hl (od_may_seg h (.inr rfl) (by omega) (sg_len s)) rfl ?_ ?_ (segWith_pair hp) (by rw [segWith_len, hn]; simp; omega)
  · unfold doB
    simp only [Int.toNat_natCast]
    rw [h.2.2.2.1, List.length_map, if_pos hlt, putRows_map]
    unfold segWith
    rw [hn]
  · intro x hx
    rcases (segWith_mem hp).1 hx with rfl | ⟨hx, _⟩
    · exact ⟨hm, hw⟩
    · exact h.2.2.2.2.1 x hx
theorem od_wf {k pg i : Nat} {t : List UInt8} (hp : pg < 256 ^ 4) (hk : k < 256) (hi : i ≤ 13) : Od.wf ⟨k, pg, (i : Nat), 0, t, [], 0, 0, 0⟩ := by
  refine ⟨hk, hp, ⟨?_, ?_⟩, ⟨?_, ?_⟩, ?_, ?_, ?_⟩ <;> simp only <;> omega
theorem od_small {k pg i : Nat} {t : List UInt8} (h : t.length ≤ 65535) : Od.small ⟨k, pg, (i : Nat), 0, t, [], 0, 0, 0⟩ := ⟨h, by simp, fun r hr => by cases hr⟩
def upd (f : Nat → Nat) (k v : Nat) : Nat → Nat := fun j => if j = k then v else f j
/-- The commits, beside their numbers. -/
def CmI (cs cn : List Nat) (st nm : Nat → Nat) (m : Nat) : Prop := cs.length = cn.length ∧ cn.Pairwise (· < ·) ∧ (∀ x ∈ cn, x ≤ m) ∧ (∀ x ∈ cs, 1 ≤ x ∧ x ≤ 13) ∧
  ∀ k, st k = 2 → ∃ j, ∃ h : j < cs.length, ∃ h2 : j < cn.length, cs[j] = k ∧ cn[j] = nm k ∧ ∀ i (hi : i < cs.length), j < i → cs[i] ≠ k
theorem CmI.off {cs cn : List Nat} {st nm : Nat → Nat} {m k v : Nat} (h : CmI cs cn st nm m) (hv : v ≠ 2) : CmI cs cn (upd st k v) nm m := by
  obtain ⟨a, b, c, d, e⟩ := h
  refine ⟨a, b, c, d, fun j hj => e j ?_⟩
  unfold upd at hj
  split at hj
  · exact absurd hj hv
  · exact hj
theorem head_seg (id : Nat) (h1 : 1 ≤ id) (h2 : id ≤ 1024) : SegP ⟨5, 0, id, 0, 0, []⟩ [] := by
  exact ⟨⟨(show 5 < 256 by decide), (show 0 < 256 by decide), (show id < 256 ^ 4 by omega), (show 0 < 256 ^ 8 by decide), (show 0 < 256 ^ 4 by decide)⟩, rfl, headOk_iff.2 ⟨(show 5 ≤ 5 by decide), h1, h2, (show 0 ≤ 1024 by decide)⟩, rfl, fun s hs => (by cases hs), List.Pairwise.nil, Nat.zero_le _⟩
end Go.Proofs.YtienlhnbmobinaaGreat
end

section
/- chapter 22: the reference's at, Find, Drop, Put -/
namespace Go.Proofs.YtienlhnbmobinaaGreat
open Go.RowKit
set_option linter.unusedVariables false
set_option linter.unusedSimpArgs false
theorem step_store_op {ops : Array Oper} {o : Oper} {a : Act} {w : World} {K : Act → World → Prop} {Q : Exit → Act → World → Prop} {E : Prop} (hgd : o.guard = none) (x y : Operand) (ho : o.op = .store 40 x y)
    {g : Nat} {od : Od} {sv : Value} (h : OAt w g od sv) (d : Od) (b : Option Addr) (n c : Nat)
    (hx : a.eval x = .pointer (some ⟨g, 0, none⟩)) (hy : a.eval y = .agg #[.int .u8 d.kind, .int .u32 d.page, .int .i64 d.at_, .int .i64 d.off, .string ⟨d.text.toArray⟩, .slice b n c, .int .u8 d.pk, .int .u8 d.lv, .int .u32 d.nx])
    (hk : ∀ W, OAt W g d (.slice b n c) → OthersKept w W (fun x => x = g) → K (a.put o.dst undef) W) :
    if Region.wanted o (yielded ops a.tmps) = true then Oper.wp Tryz.prog o a w K Q else E := by
  rw [if_pos (by simp [Region.wanted, hgd])]
  exact wp_store_row 40 x y ho g _ hx hy 40 _ h (by kernel_rfl) rfl (by simp [Value.oneCell']) (hk _ (setRow_op h d (.slice b n c)) (setRow_kept _ _ _))
theorem seg_len_of {p : Pg} {L : List Sg} (hb : p.rows.length ≤ 1000000) (h : segsB p = some L) : L.length ≤ 1000000 := by
  unfold segsB at h
  split at h
  · rw [(segGo_all h).1]; exact hb
  · cases h
end Go.Proofs.YtienlhnbmobinaaGreat
end

section
/- chapter 22: how rows are compared (cmp.Or, the closures of History and Active) -/
namespace Go.Proofs.YtienlhnbmobinaaGreat
open Go.RowKit
set_option linter.unusedVariables false
set_option linter.unusedSimpArgs false
def cmpA (x y : Sg) : Int := cmpC x.tx y.tx
def cmpAL (x y : Sg) : Bool := decide (cmpA x y < 0)
def orI (a b : Int) : Int := if a = 0 then b else a
def cmpH (x y : Sg) : Int := orI (cmpC x.num y.num) (cmpC x.tx y.tx)
def cmpHL (x y : Sg) : Bool := decide (cmpH x y < 0)
set_option maxHeartbeats 2000000 in
set_option maxRecDepth 100000 in
theorem or_any (a b : Int) (g : Nat) (w : World) (h : w.heap[g]? = some (.cells #[.int .i64 a, .int .i64 b] 3 (0, 0))) :
    Calls Tryz.prog 40 #[.slice (some ⟨g, 0, none⟩) 2 2] w fun e w' => e = .returned (.int .i64 (orI a b)) ∧ w = w' := by
  have c0 := blk_cell h 0
  have c1 := blk_cell h 1
  simp only [List.getElem?_toArray] at c0 c1
  have hl := blk_lt h
  clear h
  by_cases ha : a = 0
  · have hr : orI a b = b := if_pos ha
    rw [hr]
    subst ha
    clear hr
    by_cases hb : b = 0
    · subst hb
      go_enter Tryz.func40, Tryz.ntmps40
      go_wp2_with fail
      go_rounds 4
      go_ret
      exact ⟨rfl, rfl⟩
    · have hbi : (b != 0) = true := by simp [hb]
      have hbe : (b == 0) = false := by simp [hb]
      go_enter Tryz.func40, Tryz.ntmps40
      go_wp2_with fail
      go_rounds 4
      go_ret
      exact ⟨rfl, rfl⟩
  · have hr : orI a b = a := if_neg ha
    rw [hr]
    clear hr
    have hai : (a != 0) = true := by simp [ha]
    have hae : (a == 0) = false := by simp [ha]
    go_enter Tryz.func40, Tryz.ntmps40
    go_wp2_with fail
    go_rounds 4
    go_ret
    exact ⟨rfl, rfl⟩
theorem seg_boxes2 (w : World) (x y : Sg) : SgBox ((w.alloc (.cells #[.int .u64 x.tx, .int .u8 x.st, .int .u64 x.num, .int .u32 x.fp, .int .u32 x.lp, .int .u32 x.hp, .int .u16 x.hs] 52)).alloc (.cells #[.int .u64 y.tx, .int .u8 y.st, .int .u64 y.num, .int .u32 y.fp, .int .u32 y.lp, .int .u32 y.hp, .int .u16 y.hs] 52)) w.heap.size x ∧ SgBox ((w.alloc (.cells #[.int .u64 x.tx, .int .u8 x.st, .int .u64 x.num, .int .u32 x.fp, .int .u32 x.lp, .int .u32 x.hp, .int .u16 x.hs] 52)).alloc (.cells #[.int .u64 y.tx, .int .u8 y.st, .int .u64 y.num, .int .u32 y.fp, .int .u32 y.lp, .int .u32 y.hp, .int .u16 y.hs] 52)) (w.heap.size + 1) y := by
  refine ⟨(SgBox.new w x).keep _, ?_⟩
  have h := SgBox.new (w.alloc (.cells #[.int .u64 x.tx, .int .u8 x.st, .int .u64 x.num, .int .u32 x.fp, .int .u32 x.lp, .int .u32 x.hp, .int .u16 x.hs] 52)) y
  rw [World.size_alloc] at h
  exact h
set_option maxHeartbeats 2000000 in
set_option maxRecDepth 100000 in
theorem cmpA_any (x y : Sg) (w : World) : Calls Tryz.prog 42 #[sgV x, sgV y] w fun e w' => e = .returned (.int .i64 (cmpA x y)) ∧ Below w.heap.size w w' := by
  unfold cmpA sgV
  have C1 := Lib.hid fun W => compare_any x.tx y.tx W
  have C2 := Lib.hid fun W => compare_any x.num y.num W
  obtain ⟨hx, hy⟩ := seg_boxes2 w x y
  have X0 := Lib.hid hx
  have Y0 := Lib.hid hy
  clear hx hy
  obtain ⟨x0, x1, x2, x3, x4, x5, x6⟩ := x
  obtain ⟨y0, y1, y2, y3, y4, y5, y6⟩ := y
  simp only at *
  have B0 := Lib.hid ((alloc_below w (.cells #[.int .u64 x0, .int .u8 x1, .int .u64 x2, .int .u32 x3, .int .u32 x4, .int .u32 x5, .int .u16 x6] 52)).alloc (by simp) (.cells #[.int .u64 y0, .int .u8 y1, .int .u64 y2, .int .u32 y3, .int .u32 y4, .int .u32 y5, .int .u16 y6] 52))
  generalize cmpC x0 y0 = c1 at *
  generalize cmpC x2 y2 = c2 at *
  go_enter Tryz.func42, Tryz.ntmps42
  go_upto_region 1 with fail
  generalize (w.alloc (.cells #[.int .u64 x0, .int .u8 x1, .int .u64 x2, .int .u32 x3, .int .u32 x4, .int .u32 x5, .int .u16 x6] 52)).alloc (.cells #[.int .u64 y0, .int .u8 y1, .int .u64 y2, .int .u32 y3, .int .u32 y4, .int .u32 y5, .int .u16 y6] 52) = w0 at *
  obtain ⟨xl, z0, z1, z2, z3, z4, z5, z6⟩ := X0.out.cells
  obtain ⟨yl, u0, u1, u2, u3, u4, u5, u6⟩ := Y0.out.cells
  simp only at z0 u0
  go_wp2_with fail
  refine (C1.out _).mono ?_
  rintro e w1 ⟨rfl, rfl⟩
  go_wp2_with fail
  go_ret
  exact ⟨rfl, B0.out⟩
set_option maxHeartbeats 2000000 in
set_option maxRecDepth 100000 in
theorem cmpH_any (x y : Sg) (w : World) : Calls Tryz.prog 39 #[sgV x, sgV y] w fun e w' => e = .returned (.int .i64 (cmpH x y)) ∧ Below w.heap.size w w' := by
  unfold cmpH sgV
  have C1 := Lib.hid fun W => compare_any x.tx y.tx W
  have C2 := Lib.hid fun W => compare_any x.num y.num W
  obtain ⟨hx, hy⟩ := seg_boxes2 w x y
  have X0 := Lib.hid hx
  have Y0 := Lib.hid hy
  clear hx hy
  obtain ⟨x0, x1, x2, x3, x4, x5, x6⟩ := x
  obtain ⟨y0, y1, y2, y3, y4, y5, y6⟩ := y
  simp only at *
  have B0 := Lib.hid ((alloc_below w (.cells #[.int .u64 x0, .int .u8 x1, .int .u64 x2, .int .u32 x3, .int .u32 x4, .int .u32 x5, .int .u16 x6] 52)).alloc (by simp) (.cells #[.int .u64 y0, .int .u8 y1, .int .u64 y2, .int .u32 y3, .int .u32 y4, .int .u32 y5, .int .u16 y6] 52))
  generalize cmpC x0 y0 = c1 at *
  generalize cmpC x2 y2 = c2 at *
  go_enter Tryz.func39, Tryz.ntmps39
  go_upto_region 1 with fail
  generalize (w.alloc (.cells #[.int .u64 x0, .int .u8 x1, .int .u64 x2, .int .u32 x3, .int .u32 x4, .int .u32 x5, .int .u16 x6] 52)).alloc (.cells #[.int .u64 y0, .int .u8 y1, .int .u64 y2, .int .u32 y3, .int .u32 y4, .int .u32 y5, .int .u16 y6] 52) = w0 at *
  have XD : Hid (SgBox w0.drew w.heap.size ⟨x0, x1, x2, x3, x4, x5, x6⟩) := X0.out
  have YD : Hid (SgBox w0.drew (w.heap.size + 1) ⟨y0, y1, y2, y3, y4, y5, y6⟩) := Y0.out
  have BD := Lib.hid B0.out.drew
  refine wp_region_held_drew (S := fun W => SgBox W w.heap.size ⟨x0, x1, x2, x3, x4, x5, x6⟩ ∧ SgBox W (w.heap.size + 1) ⟨y0, y1, y2, y3, y4, y5, y6⟩) (by kernel_rfl) (⟨XD.out, YD.out⟩) (fun hHeld => ?_)
  clear X0 Y0 B0
  generalize w0.drew = v0 at *
  have B0 := BD
  refine wpAnyH_take (i := 0) (oi := { dst := some 5, op := Go.Op.fieldAddr 52 (Go.Operand.tmp 2) 2, type := 0, pos := "seg.go:207", after := #[], guard := none }) (v := ?_) rfl (by kernel_rfl) (by kernel_rfl) (by kernel_rfl) (fun _ _ _ h => h) (Or.inl ⟨by rfl, ?_⟩) hHeld ?_
  rotate_left
  · (intro w hSw; obtain ⟨xl, z0, z1, z2, z3, z4, z5, z6⟩ := hSw.1.cells; obtain ⟨yl, u0, u1, u2, u3, u4, u5, u6⟩ := hSw.2.cells; simp only at z0 z1 z2 z3 z4 z5 z6 u0 u1 u2 u3 u4 u5 u6; go_simp <;> with_reducible rfl)
  simp only [Act.put, List.setIfInBounds_toArray, List.set_cons_zero, List.set_cons_succ]
  refine wpAnyH_take (i := 1) (oi := { dst := some 6, op := Go.Op.load 23 (Go.Operand.tmp 5), type := 23, pos := "seg.go:207", after := #[{ on := 0, ground := Go.Ground.data }], guard := none }) (v := ?_) rfl (by kernel_rfl) (by kernel_rfl) (by kernel_rfl) (fun _ _ _ h => h) (Or.inl ⟨by rfl, ?_⟩) hHeld ?_
  rotate_left
  · (intro w hSw; obtain ⟨xl, z0, z1, z2, z3, z4, z5, z6⟩ := hSw.1.cells; obtain ⟨yl, u0, u1, u2, u3, u4, u5, u6⟩ := hSw.2.cells; simp only at z0 z1 z2 z3 z4 z5 z6 u0 u1 u2 u3 u4 u5 u6; go_simp <;> with_reducible rfl)
  simp only [Act.put, List.setIfInBounds_toArray, List.set_cons_zero, List.set_cons_succ]
  refine wpAnyH_take (i := 2) (oi := { dst := some 7, op := Go.Op.fieldAddr 52 (Go.Operand.tmp 3) 2, type := 0, pos := "seg.go:207", after := #[], guard := none }) (v := ?_) rfl (by kernel_rfl) (by kernel_rfl) (by kernel_rfl) (fun _ _ _ h => h) (Or.inl ⟨by rfl, ?_⟩) hHeld ?_
  rotate_left
  · (intro w hSw; obtain ⟨xl, z0, z1, z2, z3, z4, z5, z6⟩ := hSw.1.cells; obtain ⟨yl, u0, u1, u2, u3, u4, u5, u6⟩ := hSw.2.cells; simp only at z0 z1 z2 z3 z4 z5 z6 u0 u1 u2 u3 u4 u5 u6; go_simp <;> with_reducible rfl)
  simp only [Act.put, List.setIfInBounds_toArray, List.set_cons_zero, List.set_cons_succ]
  refine wpAnyH_take (i := 3) (oi := { dst := some 8, op := Go.Op.load 23 (Go.Operand.tmp 7), type := 23, pos := "seg.go:207", after := #[{ on := 2, ground := Go.Ground.data }], guard := none }) (v := ?_) rfl (by kernel_rfl) (by kernel_rfl) (by kernel_rfl) (fun _ _ _ h => h) (Or.inl ⟨by rfl, ?_⟩) hHeld ?_
  rotate_left
  · (intro w hSw; obtain ⟨xl, z0, z1, z2, z3, z4, z5, z6⟩ := hSw.1.cells; obtain ⟨yl, u0, u1, u2, u3, u4, u5, u6⟩ := hSw.2.cells; simp only at z0 z1 z2 z3 z4 z5 z6 u0 u1 u2 u3 u4 u5 u6; go_simp <;> with_reducible rfl)
  simp only [Act.put, List.setIfInBounds_toArray, List.set_cons_zero, List.set_cons_succ]
  refine wpAnyH_take (i := 5) (oi := { dst := some 10, op := Go.Op.fieldAddr 52 (Go.Operand.tmp 2) 0, type := 0, pos := "seg.go:207", after := #[], guard := none }) (v := ?_) rfl (by kernel_rfl) (by kernel_rfl) (by kernel_rfl) (fun _ _ _ h => h) (Or.inl ⟨by rfl, ?_⟩) hHeld ?_
  rotate_left
  · (intro w hSw; obtain ⟨xl, z0, z1, z2, z3, z4, z5, z6⟩ := hSw.1.cells; obtain ⟨yl, u0, u1, u2, u3, u4, u5, u6⟩ := hSw.2.cells; simp only at z0 z1 z2 z3 z4 z5 z6 u0 u1 u2 u3 u4 u5 u6; go_simp <;> with_reducible rfl)
  simp only [Act.put, List.setIfInBounds_toArray, List.set_cons_zero, List.set_cons_succ]
  refine wpAnyH_take (i := 6) (oi := { dst := some 11, op := Go.Op.load 23 (Go.Operand.tmp 10), type := 23, pos := "seg.go:207", after := #[{ on := 5, ground := Go.Ground.data }], guard := none }) (v := ?_) rfl (by kernel_rfl) (by kernel_rfl) (by kernel_rfl) (fun _ _ _ h => h) (Or.inl ⟨by rfl, ?_⟩) hHeld ?_
  rotate_left
  · (intro w hSw; obtain ⟨xl, z0, z1, z2, z3, z4, z5, z6⟩ := hSw.1.cells; obtain ⟨yl, u0, u1, u2, u3, u4, u5, u6⟩ := hSw.2.cells; simp only at z0 z1 z2 z3 z4 z5 z6 u0 u1 u2 u3 u4 u5 u6; go_simp <;> with_reducible rfl)
  simp only [Act.put, List.setIfInBounds_toArray, List.set_cons_zero, List.set_cons_succ]
  refine wpAnyH_take (i := 7) (oi := { dst := some 12, op := Go.Op.fieldAddr 52 (Go.Operand.tmp 3) 0, type := 0, pos := "seg.go:207", after := #[], guard := none }) (v := ?_) rfl (by kernel_rfl) (by kernel_rfl) (by kernel_rfl) (fun _ _ _ h => h) (Or.inl ⟨by rfl, ?_⟩) hHeld ?_
  rotate_left
  · (intro w hSw; obtain ⟨xl, z0, z1, z2, z3, z4, z5, z6⟩ := hSw.1.cells; obtain ⟨yl, u0, u1, u2, u3, u4, u5, u6⟩ := hSw.2.cells; simp only at z0 z1 z2 z3 z4 z5 z6 u0 u1 u2 u3 u4 u5 u6; go_simp <;> with_reducible rfl)
  simp only [Act.put, List.setIfInBounds_toArray, List.set_cons_zero, List.set_cons_succ]
  refine wpAnyH_take (i := 8) (oi := { dst := some 13, op := Go.Op.load 23 (Go.Operand.tmp 12), type := 23, pos := "seg.go:207", after := #[{ on := 7, ground := Go.Ground.data }], guard := none }) (v := ?_) rfl (by kernel_rfl) (by kernel_rfl) (by kernel_rfl) (fun _ _ _ h => h) (Or.inl ⟨by rfl, ?_⟩) hHeld ?_
  rotate_left
  · (intro w hSw; obtain ⟨xl, z0, z1, z2, z3, z4, z5, z6⟩ := hSw.1.cells; obtain ⟨yl, u0, u1, u2, u3, u4, u5, u6⟩ := hSw.2.cells; simp only at z0 z1 z2 z3 z4 z5 z6 u0 u1 u2 u3 u4 u5 u6; go_simp <;> with_reducible rfl)
  simp only [Act.put, List.setIfInBounds_toArray, List.set_cons_zero, List.set_cons_succ]
  refine wpAnyH_ready (rs := [4]) (by kernel_rfl) (by simp) (AllReadyH.cons (o := { dst := some 9, op := Go.Op.call { callee := Go.Callee.value (Go.Operand.func 41), args := #[Go.Operand.tmp 6, Go.Operand.tmp 8], argTypes := #[23, 23] }, type := 3, pos := "seg.go:207", after := #[{ on := 1, ground := Go.Ground.data }, { on := 3, ground := Go.Ground.data }], guard := none }) rfl (fun K hK => ?_) AllReadyH.nil)
  · go_simp
    refine (C2.out _).mono ?_
    rintro e vv ⟨rfl, rfl⟩
    refine hK.out _ _ ?_ (fun hHeld => ?_)
    · exact hHeld
    clear hK K
    (try simp only [Act.put, List.setIfInBounds_toArray, List.set_cons_zero, List.set_cons_succ])
    refine wpAnyH_ready (rs := [9]) (by kernel_rfl) (by simp) (AllReadyH.cons (o := { dst := some 14, op := Go.Op.call { callee := Go.Callee.value (Go.Operand.func 41), args := #[Go.Operand.tmp 11, Go.Operand.tmp 13], argTypes := #[23, 23] }, type := 3, pos := "seg.go:207", after := #[{ on := 6, ground := Go.Ground.data }, { on := 8, ground := Go.Ground.data }, { on := 4, ground := Go.Ground.chain }], guard := none }) rfl (fun K hK => ?_) AllReadyH.nil)
    · go_simp
      refine (C1.out _).mono ?_
      rintro e vv ⟨rfl, rfl⟩
      refine hK.out _ _ ?_ (fun hHeld => ?_)
      · exact hHeld
      clear hK K
      (try simp only [Act.put, List.setIfInBounds_toArray, List.set_cons_zero, List.set_cons_succ])
      refine wpAnyH_ready (rs := [10]) (by kernel_rfl) (by simp) (AllReadyH.cons (o := { dst := some 15, op := Go.Op.buildSlice 110 2 #[(0, Go.Operand.tmp 9), (1, Go.Operand.tmp 14)], type := 110, pos := "seg.go:207", after := #[{ on := 4, ground := Go.Ground.data }, { on := 9, ground := Go.Ground.data }], guard := none }) rfl (fun K hK => ?_) AllReadyH.nil)
      · go_simp
        have S1 : Hid ((v0.alloc (.cells #[.int .i64 c2, .int .i64 c1] 3)).heap[v0.heap.size]? = some (.cells #[.int .i64 c2, .int .i64 c1] 3 (0, 0))) := heap_alloc_new v0 _
        have B1 := Lib.hid (B0.out.alloc B0.out.size (.cells #[.int .i64 c2, .int .i64 c1] 3))
        have hS9 := Lib.hid (And.intro (SgBox.keep hHeld.1 (.cells #[.int .i64 c2, .int .i64 c1] 3)) (SgBox.keep hHeld.2 (.cells #[.int .i64 c2, .int .i64 c1] 3)))
        obtain ⟨gS, hgS⟩ : ∃ z, z = v0.heap.size := ⟨_, rfl⟩
        rw [← hgS] at S1 ⊢
        generalize v0.alloc (.cells #[.int .i64 c2, .int .i64 c1] 3) = v1 at *
        clear hgS
        refine hK.out _ _ ?_ (fun hHeld => ?_)
        · exact hS9.out
        clear hK K
        (try simp only [Act.put, List.setIfInBounds_toArray, List.set_cons_zero, List.set_cons_succ])
        refine wpAnyH_ready (rs := [11]) (by kernel_rfl) (by simp) (AllReadyH.cons (o := { dst := some 16, op := Go.Op.call { callee := Go.Callee.value (Go.Operand.func 40), args := #[Go.Operand.tmp 15], argTypes := #[110] }, type := 3, pos := "seg.go:207", after := #[{ on := 10, ground := Go.Ground.data }, { on := 9, ground := Go.Ground.chain }], guard := none }) rfl (fun K hK => ?_) AllReadyH.nil)
        · go_simp
          refine (or_any c2 c1 gS _ S1.out).mono ?_
          rintro e vv ⟨rfl, rfl⟩
          refine hK.out _ _ ?_ (fun hHeld => ?_)
          · exact hHeld
          clear hK K
          (try simp only [Act.put, List.setIfInBounds_toArray, List.set_cons_zero, List.set_cons_succ])
          refine wpAnyH_take (i := 12) (oi := { dst := some 4, op := Go.Op.assign (Go.Operand.tmp 16), type := 3, pos := "seg.go:207", after := #[{ on := 11, ground := Go.Ground.data }, { on := 11, ground := Go.Ground.chain }, { on := 0, ground := Go.Ground.phase }, { on := 1, ground := Go.Ground.phase }, { on := 2, ground := Go.Ground.phase }, { on := 3, ground := Go.Ground.phase }, { on := 4, ground := Go.Ground.phase }, { on := 5, ground := Go.Ground.phase }, { on := 6, ground := Go.Ground.phase }, { on := 7, ground := Go.Ground.phase }, { on := 8, ground := Go.Ground.phase }, { on := 9, ground := Go.Ground.phase }, { on := 10, ground := Go.Ground.phase }, { on := 11, ground := Go.Ground.phase }], guard := none }) (v := ?_) rfl (by kernel_rfl) (by kernel_rfl) (by kernel_rfl) (fun _ _ _ h => h) (Or.inl ⟨by rfl, ?_⟩) hHeld ?_
          rotate_left
          · (intro w hSw; obtain ⟨xl, z0, z1, z2, z3, z4, z5, z6⟩ := hSw.1.cells; obtain ⟨yl, u0, u1, u2, u3, u4, u5, u6⟩ := hSw.2.cells; simp only at z0 z1 z2 z3 z4 z5 z6 u0 u1 u2 u3 u4 u5 u6; go_simp <;> with_reducible rfl)
          simp only [Act.put, List.setIfInBounds_toArray, List.set_cons_zero, List.set_cons_succ]
          refine wpAnyH_done (by kernel_rfl) ?_ _
          go_wp2_with fail
          go_ret
          exact ⟨rfl, B1.out⟩
end Go.Proofs.YtienlhnbmobinaaGreat
end
