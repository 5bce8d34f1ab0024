/- Kept of our texts for this claim: SegStay SegStaysWalk -/
import Derived.Test.YtienlhnbmobinaaRows
import Derived.Test.YtienlhnbmobinaaStayKAc
import Derived.Test.YtienlhnbmobinaaStayKAd
import Derived.Test.YtienlhnbmobinaaStayKAf
import Derived.Test.YtienlhnbmobinaaStayKAj
import Derived.Test.YtienlhnbmobinaaStayKAn
import Derived.Test.YtienlhnbmobinaaStayKAo
import Derived.Test.YtienlhnbmobinaaStayKAp
import Derived.Test.YtienlhnbmobinaaStayKAa
import Derived.Test.YtienlhnbmobinaaStayKAb
import Derived.WalkKit
import Derived.WalkLawsBesides
import Derived.WalkSpells
import Derived.LoopTactic
import Derived.WalkMore
import Derived.LoopN
import Derived.Laws.BitsAllLaws
import Derived.Laws.IdiomStrings
import Derived.BigQuiet
import Derived.Deep.QuietTactic
import Derived.Deep.DeepCutAuto
import Derived.Deep.RegionHeld3
import Derived.Deep.DrawnRows
import Derived.Lib.Hide
import Derived.Outline
import Derived.Deep.DeepMust
import Derived.Handy
import Derived.Test.YtienlhnbmobinaaStayKAi
import Derived.Test.YtienlhnbmobinaaStayKAe
import Derived.Deep.CutBlock
import Derived.Test.YtienlhnbmobinaaStayKAm
import Derived.Test.YtienlhnbmobinaaStayKAk
import Derived.Test.YtienlhnbmobinaaStayKAg
import Derived.Deep.LoopGhost
import Derived.Deep.OwnRows
section
/- what the loop of SegStays holds -/
namespace Go.Proofs.Ytienlhnbmobinaa
open Go.RowKit
set_option linter.unusedVariables false
set_option linter.unusedSimpArgs false
theorem Try.infoU8s : (Try.prog.info? 5).map (fun i => (i.zero, i.size, i.bytes)) = some (some (.int .u8 0), 1, 1) := by kernel_rfl
theorem rowIs_below {w w' : World} {b : Nat} {t : TypeId} {n : Nat} {f : Nat → Value} (h : w.rowIs b t n f) (hb : Below w.heap.size w w') : w'.rowIs b t n f := h.of_block (hb.block b h.lt)
theorem TextsAt.off_ints {w w' : World} {g n : Nat} {t : TypeId} {K : IntKind} {f : Nat → Nat} {v : Value} {ts : List (List UInt8)} (h : TextsAt w v ts) (hr : w.rowIs g t n (fun k => .int K (f k : Nat))) (hk : OthersKept w w' (fun k => k = g)) : TextsAt w' v ts := by
  obtain ⟨A, cp, h1, h2, h3, h4, h5⟩ := h
  refine ⟨A, cp, h1, h2, h3, h4, fun h0 => ?_⟩
  obtain ⟨b, o, e1, e2, e3⟩ := h5 h0
  refine ⟨b, o, e1, Nat.lt_of_lt_of_le e2 hk.size, fun j hj => hk.cell (e3 j hj) (fun e => ?_)⟩
  simp only at e
  subst e
  have h6 := e3 j hj
  by_cases hlt : o + j < n
  · rw [hr.cell hlt] at h6
    cases h6
  · obtain ⟨c, hb, hs, hc⟩ := hr
    rw [cell_of_row w b (o + j) c t _ hb, Array.getElem?_eq_none (by omega)] at h6
    cases h6
/-- What the loop holds: the page, what was done with each, who was committed. -/
structure StayAt (g9 gS gN gB : Nat) (W : World) (p : Pg) (A : Option Addr) (c : Nat) (st nm : Nat → Nat) (S : Value) (cs : List Nat) : Prop where
  box : PgBox W g9 p.kind p.level p.id p.lsn p.next (.slice A p.rows.length c)
  rows : TextsAt W (.slice A p.rows.length c) p.rows
  sts : W.rowIs gS 5 20 (fun k => .int .u8 (st k : Nat))
  nms : W.rowIs gN 23 20 (fun k => .int .u64 (nm k : Nat))
  own : W.ownsRow gB 23 1 S cs.length (n64 cs)
  far : Far (.slice A p.rows.length c) S p.rows.length
  lt1 : g9 < gS
  lt2 : gS < gN
  lt3 : gN < gB
  lt4 : gB ≤ W.heap.size
section
variable {g9 gS gN gB : Nat} {W W' : World} {p : Pg} {A : Option Addr} {c : Nat} {st nm : Nat → Nat} {S : Value} {cs : List Nat}
theorem StayAt.below (h : StayAt g9 gS gN gB W p A c st nm S cs) (hb : Below W.heap.size W W') : StayAt g9 gS gN gB W' p A c st nm S cs :=
  ⟨h.box.below hb, h.rows.below hb, rowIs_below h.sts hb, rowIs_below h.nms hb, own_below h.own hb, h.far, h.lt1, h.lt2, h.lt3, Nat.le_trans h.lt4 hb.size⟩
theorem StayAt.setS (h : StayAt g9 gS gN gB W p A c st nm S cs) (k v : Nat) : StayAt g9 gS gN gB (W.setCell ⟨gS, k, none⟩ (.int .u8 (v : Nat))) p A c (upd st k v) nm S cs := by
  have hk := one_kept W gS k (.int .u8 (v : Nat))
  have h1 := h.lt1
  have h2 := h.lt2
  have h3 := h.lt3
  refine ⟨hk.heap h.box (by omega), TextsAt.off_ints h.rows h.sts hk, ?_, h.nms.of_block (hk.block gN h.nms.lt (by omega)), hk.owns h.own (fun q hq e => by have := (h.own.lt q hq).1; omega), h.far, h1, h2, h3, Nat.le_trans h.lt4 hk.size⟩
  refine (h.sts.set k (.int .u8 (v : Nat))).congr (fun i hi => ?_)
  unfold upd
  by_cases hik : i = k
  · rw [if_pos hik, if_pos hik]
  · rw [if_neg hik, if_neg hik]
theorem StayAt.setN (h : StayAt g9 gS gN gB W p A c st nm S cs) (k v : Nat) : StayAt g9 gS gN gB (W.setCell ⟨gN, k, none⟩ (.int .u64 (v : Nat))) p A c st (upd nm k v) S cs := by
  have hk := one_kept W gN k (.int .u64 (v : Nat))
  have h1 := h.lt1
  have h2 := h.lt2
  have h3 := h.lt3
  refine ⟨hk.heap h.box (by omega), TextsAt.off_ints h.rows h.nms hk, h.sts.of_block (hk.block gS h.sts.lt (by omega)), ?_, hk.owns h.own (fun q hq e => by have := (h.own.lt q hq).1; omega), h.far, h1, h2, h3, Nat.le_trans h.lt4 hk.size⟩
  refine (h.nms.set k (.int .u64 (v : Nat))).congr (fun i hi => ?_)
  unfold upd
  by_cases hik : i = k
  · rw [if_pos hik, if_pos hik]
  · rw [if_neg hik, if_neg hik]
theorem upd_id {f : Nat → Nat} {k v : Nat} (h : f k = v) : upd f k v = f := by
  funext j
  unfold upd
  split
  · next e => rw [e, h]
  · rfl
/-- The page is stored anew. -/
theorem StayAt.setP (h : StayAt g9 gS gN gB W p A c st nm S cs) {q : Pg} {A' : Option Addr} {c' : Nat} (hP : PgBox W' g9 q.kind q.level q.id q.lsn q.next (.slice A' q.rows.length c')) (hK : OthersKept W W' (fun k => k = g9)) (hT : TextsAt W (.slice A' q.rows.length c') q.rows) (hF : Far (.slice A' q.rows.length c') S q.rows.length) : StayAt g9 gS gN gB W' q A' c' st nm S cs := by
  have h1 := h.lt1
  have h2 := h.lt2
  have h3 := h.lt3
  exact ⟨hP, TextsAt.off_pg hT h.box (fun x e => by cases e) hK, h.sts.of_block (hK.block gS h.sts.lt (by omega)), h.nms.of_block (hK.block gN h.nms.lt (by omega)), hK.owns h.own (fun q hq e => by have := (h.own.lt q hq).1; omega), hF, h1, h2, h3, Nat.le_trans h.lt4 hK.size⟩
/-- A commit is appended. -/
theorem StayAt.app (h : StayAt g9 gS gN gB W p A c st nm S cs) {k : Nat} {S' : Value} (hO : W'.ownsRow gB 23 1 S' (cs.length + 1) (n64 cs ++ [.int .u64 (k : Nat)])) (hG : W.grownBy W' S.ownBlock) (hB : S'.ownBlock = S.ownBlock ∨ S'.ownBlock = some W.heap.size) : StayAt g9 gS gN gB W' p A c st nm S' (cs ++ [k]) := by
  have h1 := h.lt1
  have h2 := h.lt2
  have h3 := h.lt3
  have ho : ∀ q, S.ownBlock = some q → gB ≤ q := fun q hq => (h.own.lt q hq).1
  refine ⟨h.box.grown hG (fun e => by have := ho g9 e.symm; omega), h.rows.grown hG (fun h0 q hq e => h.far h0 q hq e), h.sts.of_block (hG.block gS h.sts.lt (fun e => by have := ho gS e.symm; omega)), h.nms.of_block (hG.block gN h.nms.lt (fun e => by have := ho gN e.symm; omega)), ?_, fun h0 q hq e => ?_, h1, h2, h3, Nat.le_trans h.lt4 hG.size⟩
  · rw [List.length_append, n64_append]
    exact hO
  · rcases hB with hB | hB
    · exact h.far h0 q hq (hB.symm.trans e)
    · have h9 := h.rows.block_lt h0 q hq
      have h8 := hB.symm.trans e
      injection h8 with h8
      omega
theorem StayAt.start {w1 w2 : World} (hP : PgBox W g9 p.kind p.level p.id p.lsn p.next (.slice A 0 c)) (hr : p.rows = []) (hA : TextsAt W (.slice A 0 c) []) (h1 : g9 < gS) (h2 : gS < gN) (h3 : gN < gB) (h4 : gB ≤ W.heap.size) (hS : W.rowIs gS 5 20 (fun _ => .int .u8 0)) (hN : W.rowIs gN 23 20 (fun _ => .int .u64 0)) : StayAt g9 gS gN gB W p A c (fun _ => 0) (fun _ => 0) (.slice none 0 0) [] :=
  ⟨by rw [hr]; exact hP, by rw [hr]; exact hA, hS, hN, World.ownsRow_nil _ _ _ _, by rw [hr]; exact (fun h => absurd h (Nat.lt_irrefl 0)), h1, h2, h3, h4⟩
end
/-- The relation that a page, its list, and what was done stand in. -/
def StayI (p : Pg) (L : List Sg) (st nm : Nat → Nat) (cs cn : List Nat) (i : Nat) : Prop := SegP p L ∧ StI L st nm ∧ CmI cs cn st nm i ∧ cs.length ≤ i
theorem stay_start : StayI ⟨5, 0, 4, 0, 0, []⟩ [] (fun _ => 0) (fun _ => 0) [] [] 0 := ⟨head_seg 4 (by decide) (by decide), st_start, cm_start, Nat.le_refl _⟩
theorem StayI.up {p : Pg} {L : List Sg} {st nm : Nat → Nat} {cs cn : List Nat} {i j : Nat} (h : StayI p L st nm cs cn i) (hj : i ≤ j) : StayI p L st nm cs cn j := ⟨h.1, h.2.1, h.2.2.1.up hj, Nat.le_trans h.2.2.2 hj⟩
/-- What is applied next. -/
def StayN (p : Pg) (o : Od) (q : Pg) (L : List Sg) (st nm : Nat → Nat) (cs cn : List Nat) (i : Nat) : Prop := o.wf ∧ o.small ∧ o.rows = [] ∧ applyB p o i = (q, 0) ∧ StayI q L st nm cs cn i
theorem stay_put {p : Pg} {L : List Sg} {st nm : Nat → Nat} {cs cn : List Nat} {i k l1 : Nat} (h : StayI p L st nm cs cn i) (h1 : 1 ≤ k) (h2 : k ≤ 13) (h0 : st k ≠ 2) (hi : i ≤ 100) (hl : l1 = i + 1) :
    ∃ o q L', sPutB p ⟨k, 1, 0, 9, 10, 10, i⟩ = (o, 0) ∧ StayN p o q L' (upd st k 1) nm cs cn l1 := by
  have hm : Sg.may ⟨k, 1, 0, 9, 10, 10, i⟩ = true := by
    unfold Sg.may
    exact Bool.and_eq_true_iff.2 ⟨rfl, decide_eq_true ⟨by show 0 < k; omega, ⟨by show 1 ≤ 9; decide, by show 9 ≤ 1024; decide⟩, ⟨by show 1 ≤ 10; decide, by show 10 ≤ 1024; decide⟩, ⟨by show 1 ≤ 10; decide, by show 10 ≤ 1024; decide⟩⟩⟩
  have hw : Sg.wf ⟨k, 1, 0, 9, 10, 10, i⟩ := ⟨(show k < 256 ^ 8 by omega), (show 1 < 256 by omega), (show 0 < 256 ^ 8 by omega), (show 9 < 256 ^ 4 by omega), (show 10 < 256 ^ 4 by omega), (show 10 < 256 ^ 4 by omega), (show i < 256 ^ 2 by omega)⟩
  obtain ⟨o, q, L', e1, e2, e3, e4, e5, e6, e7, e8⟩ := st_put h.1 h.2.1 h.2.2.1 (s := ⟨k, 1, 0, 9, 10, 10, i⟩) h1 h2 hm hw rfl h0 (lsn := l1) (by omega)
  exact ⟨o, q, L', e1, e2, e3, e4, e5, e6, e7, e8.up (by omega), by have := h.2.2.2; omega⟩
theorem stay_commit {p : Pg} {L : List Sg} {st nm : Nat → Nat} {cs cn : List Nat} {i k l1 : Nat} (h : StayI p L st nm cs cn i) (h1 : 1 ≤ k) (h2 : k ≤ 13) (hi : i ≤ 100) (hl : l1 = i + 1) :
    (st k = 1 → ∃ o q L', sCommitB p k l1 = (o, 0) ∧ StayN p o q L' (upd st k 2) (upd nm k l1) (cs ++ [k]) (cn ++ [l1]) l1) ∧ (st k ≠ 1 → ∃ e : Int, sCommitB p k l1 = (Od.zero, e) ∧ (e == 0) = false ∧ (e != 0) = true) := by
  subst hl
  have h8 := st_commit h.1 h.2.1 h.2.2.1 h1 h2 (by omega) (lsn := i + 1) (by omega)
  refine ⟨fun hk => ?_, h8.2⟩
  obtain ⟨o, q, L', e1, e2, e3, e4, e5, e6, e7, e8⟩ := h8.1 hk
  exact ⟨o, q, L', e1, e2, e3, e4, e5, e6, e7, e8, by have := h.2.2.2; simp; omega⟩
theorem stay_drop {p : Pg} {L : List Sg} {st nm : Nat → Nat} {cs cn : List Nat} {i k l1 : Nat} (h : StayI p L st nm cs cn i) (h1 : 1 ≤ k) (h2 : k ≤ 13) (hi : i ≤ 100) (hl : l1 = i + 1) :
    (st k ≠ 0 → ∃ o q L', sDropB p k = (o, 0) ∧ StayN p o q L' (upd st k 0) nm cs cn l1) ∧ (st k = 0 → sDropB p k = (Od.zero, 3)) := by
  subst hl
  have h8 := st_drop h.1 h.2.1 h.2.2.1 h1 h2 (lsn := i + 1) (by omega)
  refine ⟨fun hk => ?_, h8.2⟩
  obtain ⟨o, q, L', e1, e2, e3, e4, e5, e6, e7, e8⟩ := h8.1 hk
  exact ⟨o, q, L', e1, e2, e3, e4, e5, e6, e7, e8.up (by omega), by have := h.2.2.2; omega⟩
/-- What the history shows of a page. -/
theorem stay_hist {p : Pg} {L : List Sg} {st nm : Nat → Nat} {cs cn : List Nat} {i : Nat} (h : StayI p L st nm cs cn i) (s1 : Value) (v : Value) (W : World) (hv : PgsIn W v [(p, s1)]) : Calls Try.prog 78 #[v] W fun e w' => ∃ u H, e = .returned u ∧ SegsAt w' u H ∧ H.length ≤ 13 ∧ H.map Sg.tx = (histI cs st cs.length).map (cs.getD · 0) ∧ Below W.heap.size W w' := by
  have hall : allB 2 [p] = L.filter (fun s => decide (s.st = 2)) := by
    unfold allB
    simp only [List.flatMap_cons, List.flatMap_nil, List.append_nil]
    rw [h.1.to]
    rfl
  have h13 := h.1.2.2.2.2.2.2
  have hf := List.length_filter_le (fun s : Sg => decide (s.st = 2)) L
  refine (segHistory_any [(p, s1)] v W hv (fun e he => ?_) (by simp) (by simp only [List.map_cons, List.map_nil]; rw [hall]; omega)).mono fun e w' ⟨u, H, e1, e2, e3, e4, e5⟩ => ?_
  · rw [List.mem_singleton.1 he]
    exact ⟨h.1.fits.1, by have := h.1.fits.2.1; show weightB p.rows ≤ _; omega⟩
  · simp only [List.map_cons, List.map_nil] at e3
    rw [hall] at e3
    refine ⟨u, H, e1, e2, by rw [e3.length_eq]; omega, hist_law h.1 h.2.1 h.2.2.1 e3 (e4.imp (fun {a b} hab => ?_)), e5⟩
    have h9 : ¬ cmpHL b a = true := by rw [hab]; decide
    rw [cmpHL_iff] at h9
    omega
end Go.Proofs.Ytienlhnbmobinaa
end

section
/- the walk of SegStays -/
namespace Go.Proofs.Ytienlhnbmobinaa
open Go.RowKit
set_option linter.unusedVariables false
set_option linter.unusedSimpArgs false
set_option maxHeartbeats 16000000 in
set_option maxHeartbeats 16000000 in
set_option maxRecDepth 100000 in
theorem segStaysLaw_any (tv : Value) (ts : List Nat) (w : World) (ht : N8At w tv ts) (hts : ∀ t ∈ ts, t < 256) :
    Calls Try.prog 13 #[tv] w fun e w' => e = .returned (.bool true) ∧ Below w.heap.size w w' := by
  have AL := Lib.hid fun W => works22_any W
  have HTS := Lib.hid hts
  obtain ⟨tn, htn⟩ : ∃ n, n = ts.length := ⟨_, rfl⟩
  obtain ⟨TA, tc, htv, k2, k3, _, k5⟩ := ht
  have K5 := Lib.hid k5
  rw [← htn] at htv k2
  subst htv
  unfold maxLen at k3
  have HTN := Lib.hid htn
  clear htn hts k5
  have CH := Lib.hid fun W => (head22_any 4 W)
  unfold pgV at CH
  simp only at CH
  obtain ⟨i0, hif, hz0, hz1, hz2⟩ := info_parts Try.infoU64
  have HI := Lib.hid hif
  have HI0 := Lib.hid hz0
  have HI1 := Lib.hid hz1
  have HI2 := Lib.hid hz2
  obtain ⟨i8, hif8, hy0, hy1, hy2⟩ := info_parts Try.infoU8s
  have HJ := Lib.hid hif8
  have HJ0 := Lib.hid hy0
  have HJ1 := Lib.hid hy1
  have HJ2 := Lib.hid hy2
  clear hif hz0 hz1 hz2 hif8 hy0 hy1 hy2
  go_enter Try.func13, Try.ntmps13
  by_cases ht60 : tn ≤ 100
  case neg =>
    have hti : decide ((100 : Int) < (tn : Int)) = true := decide_eq_true (by omega)
    go_wp2_with fail
    refine (AL.out _).mono ?_
    rintro e wa ⟨rfl, hba⟩
    have Ba := Lib.hid hba
    clear hba
    go_wp2_with fail
    go_ret
    exact ⟨rfl, Ba.out⟩
  have hti : decide ((100 : Int) < (tn : Int)) = false := decide_eq_false (by omega)
  go_wp2_with fail
  refine (CH.out _).mono ?_
  rintro e w1 ⟨rfl, hb⟩
  have PB : Hid (PgBox (w1.alloc (.cells #[.int .u8 (5 : Nat), .int .u8 (0 : Nat), .int .u32 (4 : Nat), .int .u64 (0 : Nat), .int .u32 (0 : Nat), .slice none 0 0] 26)) w1.heap.size 5 0 4 0 0 (.slice none 0 0)) := PgBox.new w1 5 0 4 0 0 (.slice none 0 0)
  have BB := Lib.hid (hb.alloc hb.size (.cells #[.int .u8 (5 : Nat), .int .u8 (0 : Nat), .int .u32 (4 : Nat), .int .u64 (0 : Nat), .int .u32 (0 : Nat), .slice none 0 0] 26))
  have hw1 := hb.size
  clear hb CH
  go_upto_region 4 with fail
  obtain ⟨g9, hg9⟩ : ∃ z, z = w1.heap.size := ⟨_, rfl⟩
  have hwg : w.heap.size ≤ g9 := by omega
  generalize hw2 : w1.alloc _ = w2
  have PB : Hid (PgBox w2 g9 5 0 4 0 0 (.slice none 0 0)) := by rw [← hw2, hg9]; exact PB.out
  have BB : Hid (Below w.heap.size w w2) := by rw [← hw2]; exact BB.out
  rw [← hg9]
  clear hw2 hg9 hw1
  have hl2 : Hid (g9 < w2.heap.size) := PB.out.lt
  go_upto_region 5 with (refine wpList_make_row _ rfl (.const (.int .i64 20)) (.const (.int .i64 20)) 70 rfl 5 i8 (.int .u8 0) Try.underlying70 HJ.out HJ0.out HJ1.out rfl .i64 .i64 20 (by rfl) (by rfl) (by rw [HJ2.out]; decide) (by decide) ?_)
  obtain ⟨gS, hgS⟩ : ∃ z, z = w2.heap.size := ⟨_, rfl⟩
  have l9S : g9 < gS := by have := hl2.out; omega
  have HgS := Lib.hid hgS
  have bS := alloc_below w2 (.cells (madeCells #[.int .u8 0] 20) 5)
  have hwa : Hid ((w2.alloc (.cells (madeCells #[.int .u8 0] 20) 5)).heap.size = gS + 1) := by show _ = _; simp [hgS]
  have RS := Lib.hid (World.rowIs_made w2 (.int .u8 0) 20 5)
  have PB := Lib.hid (PB.out.below bS)
  have BB := Lib.hid (below_then BB.out bS)
  rw [← hgS] at RS ⊢
  clear hgS bS hl2
  generalize w2.alloc (.cells (madeCells #[.int .u8 0] 20) 5) = w3 at *
  go_upto_region 6 with (refine wpList_make_row _ rfl (.const (.int .i64 20)) (.const (.int .i64 20)) 102 rfl 23 i0 (.int .u64 0) Try.underlying102 HI.out HI0.out HI1.out rfl .i64 .i64 20 (by rfl) (by rfl) (by rw [HI2.out]; decide) (by decide) ?_)
  obtain ⟨gN, hgN⟩ : ∃ z, z = w3.heap.size := ⟨_, rfl⟩
  have bN := alloc_below w3 (.cells (madeCells #[.int .u64 0] 20) 23)
  have hwb : (w3.alloc (.cells (madeCells #[.int .u64 0] 20) 23)).heap.size = gN + 1 := by simp [hgN]
  have lSN : gS < gN := by have := hwa.out; omega
  have RN := Lib.hid (World.rowIs_made w3 (.int .u64 0) 20 23)
  have PB := Lib.hid (PB.out.below bN)
  have RS := Lib.hid (rowIs_below RS.out bN)
  have BB := Lib.hid (below_then BB.out bN)
  rw [← hgN] at RN ⊢
  clear hgN bN hwa
  generalize w3.alloc (.cells (madeCells #[.int .u64 0] 20) 23) = w4 at *
  obtain ⟨gB, hgB⟩ : ∃ z, z = w4.heap.size := ⟨_, rfl⟩
  have lNB : gN < gB := by omega
  have lwB : w.heap.size ≤ gB := by omega
  have SA0 := Lib.hid (StayAt.start (p := ⟨5, 0, 4, 0, 0, []⟩) (c := 0) (A := none) (w1 := w4) (w2 := w4) PB.out rfl (TextsAt.nil _) l9S lSN lNB (by omega) RS.out RN.out)
  have SI0 := Lib.hid stay_start
  clear PB RS RN hwb hgB HJ HJ0 HJ1 HJ2
  go_wp2_with fail
  go_loopw [6, 7] (fun s6 s7 wr => ∃ (i : Nat) (p : Pg) (L : List Sg) (st nm : Nat → Nat) (cs cn : List Nat) (A : Option Addr) (c : Nat), s7 = .int .i64 i ∧ i ≤ tn ∧ Hid (StayI p L st nm cs cn i) ∧ Hid (StayAt g9 gS gN gB wr p A c st nm s6 cs) ∧ Hid (Below w.heap.size w wr)) (fun _ v _ => tn - (intOf v).toNat)
  case atStart => exact ⟨0, ⟨5, 0, 4, 0, 0, []⟩, [], _, _, [], [], none, 0, rfl, Nat.zero_le _, SI0, SA0, BB⟩
  case round =>
    clear SI0 SA0 BB
    obtain ⟨i, ⟨pa, pb, pc, pd, pe, rowsP⟩, L, st, nm, cs, cn, A, c, rfl, hi, SI, SA, BB⟩ := hrel
    obtain ⟨NA, ncp, hnv, hn2, hn3, _, hn5⟩ := (n64_own SA.out.own).1
    subst hnv
    obtain ⟨m, hmx⟩ : ∃ z, z = cs.length := ⟨_, rfl⟩
    have HM := Lib.hid hmx
    rw [← hmx] at hn2 ⊢
    have N5 := Lib.hid hn5
    clear hmx hn5
    unfold maxLen at hn3
    obtain ⟨np, hnpx⟩ : ∃ z, z = rowsP.length := ⟨_, rfl⟩
    have HNP := Lib.hid hnpx
    clear hnpx
    by_cases hlt : i < tn
    case neg =>
      have hci : ¬ (i : Int) < (tn : Int) := by omega
      have SA : Hid (StayAt g9 gS gN gB wr ⟨pa, pb, pc, pd, pe, rowsP⟩ A c st nm (.slice NA m ncp) cs) := by rw [HM.out]; exact SA.out
      have PJ := Lib.hid (PgsIn.one wr ⟨pa, pb, pc, pd, pe, rowsP⟩ (.slice A rowsP.length c) SA.out.rows)
      have CJ := Lib.hid fun v W h => stay_hist SI.out (.slice A rowsP.length c) v W h
      simp only at PJ
      have hb2 := Lib.hid (alloc_below wr (.cells #[.int .u8 pa, .int .u8 pb, .int .u32 pc, .int .u64 pd, .int .u32 pe, .slice A rowsP.length c] 26))
      obtain ⟨x0, x1, x2, x3, x4, x5, x6⟩ := SA.out.box.cells
      simp only at x0 x1 x2 x3 x4 x5 x6
      go_wp2_with fail
      refine (CJ.out _ _ PJ.out).mono ?_
      rintro e w1 ⟨u, H, rfl, HS, h13, hH, hb1⟩
      have SA1 := Lib.hid ((SA.out.below hb2.out).below hb1)
      have BB1 := Lib.hid (below_then (below_then BB.out hb2.out) hb1)
      obtain ⟨HA, hcp, hu, hcap1, hcap2, hcap3⟩ := HS
      have HS1 : Hid (SegsAt w1 (.slice HA H.length hcp) H) := ⟨HA, hcp, rfl, hcap1, hcap2, hcap3⟩
      obtain ⟨hn, hnx⟩ : ∃ z, z = H.length := ⟨_, rfl⟩
      rw [← hnx] at hu hcap1 h13 HS1
      subst hu
      have HHN := Lib.hid hnx
      have HH := Lib.hid hH
      have hm100 : m ≤ 100 := by have := SI.out.2.2.2; have := HM.out; omega
      have N64 := Lib.hid (n64_own SA1.out.own).1
      clear hb1 hb2 PJ CJ x0 x1 x2 x3 x4 x5 x6 SA BB hnx hH hcap3 N5
      unfold maxLen at hcap2
      go_wp2_with fail
      go_loopw [18, 19] (fun s18 s19 wx => ∃ j at_ : Nat, s19 = .int .i64 j ∧ s18 = .int .i64 at_ ∧ j ≤ m ∧ at_ ≤ hn ∧ Hid (at_ = (histI cs st j).length) ∧ Hid (Below w1.heap.size w1 wx)) (fun _ v _ => m - (intOf v).toNat)
      case atStart => exact ⟨0, 0, rfl, rfl, Nat.zero_le _, Nat.zero_le _, Lib.hid rfl, Lib.hid (Below.refl _ _)⟩
      case round =>
        obtain ⟨j, at_, rfl, rfl, hj, hat, HAT, B9⟩ := hrel
        by_cases hjm : j < m
        case neg =>
          have hji : ¬ (j : Int) < (m : Int) := by omega
          have hal : at_ = hn := by
            have h1 := HAT.out
            obtain rfl : j = m := by omega
            rw [HM.out, hist_len HH.out] at h1
            have := HHN.out
            omega
          subst hal
          have haa : ((at_ : Int) == (at_ : Int)) = true := by simp
          have BB2 := Lib.hid (below_then BB1.out B9.out)
          clear HAT HHN N64
          go_wp2_with fail
          refine (AL.out _).mono ?_
          rintro e wz ⟨rfl, hbz⟩
          have BZ := Lib.hid (below_then BB2.out hbz)
          clear hbz
          go_wp2_with fail
          go_ret
          exact ⟨rfl, BZ.out⟩
        have hji : (j : Int) < (m : Int) := by omega
        have hj0 : (0 : Int) ≤ (j : Int) := by omega
        have SA2 := Lib.hid (SA1.out.below B9.out)
        have NW := Lib.hid (n64_own SA2.out.own).1
        obtain ⟨NB, ncb, hnv2, _, _, _, hn52⟩ := NW.out
        have hjl : j < cs.length := by rw [← HM.out]; exact hjm
        obtain ⟨b7, o7, hNB, hb7, hc7⟩ := hn52 (by omega)
        have hNA : NA = some ⟨b7, o7, none⟩ := by injection hnv2 with e1 _ _; exact e1.trans hNB
        subst hNA
        have d0 := hc7 j hjl
        have hyin := SI.out.2.2.1.2.2.2.1 _ (List.getElem_mem hjl)
        have HY : Hid (cs.getD j 0 = cs[j]) := by
          show _ = _
          rw [List.getD_eq_getElem?_getD, List.getElem?_eq_getElem hjl]
          rfl
        have HAtx := Lib.hid fun h => hist_at (st := st) HH.out hjl h
        generalize cs[j] = y at *
        obtain ⟨v, hv⟩ : ∃ z, z = st y := ⟨_, rfl⟩
        have hok : okC cs st j = (decide (v = 2) && lastC cs j) := by unfold okC; rw [HY.out, hv]
        have HOK := Lib.hid hok
        have hy0 : (0 : Int) ≤ (y : Int) := by omega
        have hy1 : (y : Int) < 20 := by omega
        have d1 := SA2.out.sts.cell (i := y) (by omega)
        (try simp only at d1)
        rw [← hv] at d1
        have CL := Lib.hid fun W (h : N64At W (.slice (some ⟨b7, o7, none⟩) m ncp) cs) => last_any cs (.slice (some ⟨b7, o7, none⟩) m ncp) j W h hjl (by have := HM.out; omega)
        have NW2 : Hid (N64At wr (.slice (some ⟨b7, o7, none⟩) m ncp) cs) := by rw [HM.out]; have := NW.out; rw [HM.out] at this; exact this
        have STEP := Lib.hid (histI_step cs st j)
        clear hv hok hyin hc7 hn52 hNB hnv2
        by_cases hv2 : v = 2
        case neg =>
          have hvv : ((v : Int) != 2) = true := by simp; omega
          have hof : Hid (okC cs st j = false) := by show _ = _; rw [HOK.out, decide_eq_false hv2]; rfl
          clear hv2 HAtx CL
          go_wp2_with fail
          exact ⟨⟨j + 1, at_, by go_num, rfl, by omega, hat, Lib.hid (by rw [STEP.out, hof.out, HAT.out]; rfl), B9⟩, by simp [intOf]; omega⟩
        have hvv : ((v : Int) != 2) = false := by simp; omega
        have HV2 := Lib.hid hv2
        clear hv2
        go_wp2_with fail
        refine (CL.out _ NW2.out).mono ?_
        rintro e w3 ⟨rfl, hb⟩
        have B10 := Lib.hid (below_then B9.out hb)
        obtain ⟨bl, hbl⟩ : ∃ b, b = lastC cs j := ⟨_, rfl⟩
        rw [← hbl]
        have HBL := Lib.hid hbl
        have d0 := keep_cell hb d0
        have hb7 := Nat.lt_of_lt_of_le hb7 hb.size
        clear hb hbl CL d1 SA2
        cases bl with
        | false =>
          have hof : Hid (okC cs st j = false) := by show _ = _; rw [HOK.out, ← HBL.out]; simp
          clear HAtx
          go_wp2_with fail
          exact ⟨⟨j + 1, at_, by go_num, rfl, by omega, hat, Lib.hid (by rw [STEP.out, hof.out, HAT.out]; rfl), B10⟩, by simp [intOf]; omega⟩
        | true =>
          have hof : Hid (okC cs st j = true) := by show _ = _; rw [HOK.out, ← HBL.out, decide_eq_true HV2.out]; rfl
          obtain ⟨hlt9, htx9⟩ := HAtx.out hof.out
          rw [← HAT.out] at hlt9
          have hax : at_ < hn := by have := HHN.out; omega
          have HS3 := Lib.hid (HS1.out.below B10.out)
          obtain ⟨b6, o6, hHA, hb6, hc6⟩ := SegsAt.txs HS3.out HHN.out (by omega)
          have d6 := hc6 at_ hlt9
          have htx8 : Hid (H[at_].tx = y) := by
            show _ = _
            rw [← htx9]
            congr 2
          rw [htx8.out] at d6
          subst hHA
          have hai : ¬ (hn : Int) ≤ (at_ : Int) := by omega
          have haj : decide (hn ≤ at_) = false := decide_eq_false (by omega)
          have hak : (at_ : Int) < (hn : Int) := by omega
          have ha0 : (0 : Int) ≤ (at_ : Int) := by omega
          have hyy : ((y : Int) != (y : Int)) = false := by simp
          have z0 := ext_cell d0 hb7
          have z1 := ext_cell d6 hb6
          clear hc6 HAtx htx9 d0 d6
          go_upto_region 50 with fail
          refine wp_region_ext w3.heap.size (by kernel_rfl) (by kernel_rfl) ?_
          repeat (go_big_quiet_step (fail))
          refine wpQuiet_nil ?_
          rintro _ ⟨X, rfl⟩
          have hX := Lib.hid (below_then B10.out X.below)
          clear z0 z1
          go_wp2_with fail
          exact ⟨⟨j + 1, at_ + 1, by go_num, by go_num, by omega, by omega, Lib.hid (by rw [STEP.out, hof.out, HAT.out]; rfl), hX⟩, by simp [intOf]; omega⟩
    have hci : (i : Int) < (tn : Int) := by omega
    have hit : i < ts.length := by rw [← HTN.out]; exact hlt
    obtain ⟨b0, o0, rfl, hb0, hcell⟩ := K5.out (by omega)
    have c1 := (BB.out.cell (p := ⟨b0, o0 + i, none⟩) hb0).trans (hcell i hit)
    have q1 : (0 : Int) ≤ (i : Int) := by omega
    have htb := HTS.out _ (List.getElem_mem hit)
    generalize ts[i] = t at *
    obtain ⟨r, hr⟩ : ∃ z, z = t % 13 := ⟨_, rfl⟩
    have hri : (t : Int) % 13 = (r : Int) := by omega
    have hr13 : r < 13 := by omega
    obtain ⟨tx, htx⟩ : ∃ z, z = r + 1 := ⟨_, rfl⟩
    have htxi : (r : Int) + 1 = (tx : Int) := by omega
    have htx1 : 1 ≤ tx := by omega
    have htx2 : tx ≤ 13 := by omega
    obtain ⟨u, hu⟩ : ∃ z, z = t / 13 := ⟨_, rfl⟩
    have hui : (t : Int) / 13 = (u : Int) := by omega
    have hub : u < 20 := by omega
    obtain ⟨sl, hsl⟩ : ∃ z, z = u % 4 := ⟨_, rfl⟩
    have hsli : (u : Int) % 4 = (sl : Int) := by omega
    have hsl4 : sl < 4 := by omega
    clear hcell hit hr htx hu hsl
    obtain ⟨l1, hl1⟩ : ∃ z, z = i + 1 := ⟨_, rfl⟩
    have hli : (i : Int) + 1 = (l1 : Int) := by omega
    have hlb : l1 ≤ 101 := by omega
    have HL1 := Lib.hid hl1
    clear hl1
    have hi100 : i ≤ 100 := by omega
    have hwi : IntKind.u16.wrap (i : Int) = (i : Int) := IntWalk.u16_in _ ⟨by omega, by omega⟩
    go_upto_region 12 with fail
    have G0 : Hid (SgBox (wr.alloc (.cells #[.int .u64 tx, .int .u8 1, .int .u64 0, .int .u32 9, .int .u32 10, .int .u32 10, .int .u16 i] 83)) wr.heap.size ⟨tx, 1, 0, 9, 10, 10, i⟩) := heap_alloc_new wr _
    have b1 := Lib.hid (alloc_below wr (.cells #[.int .u64 tx, .int .u8 1, .int .u64 0, .int .u32 9, .int .u32 10, .int .u32 10, .int .u16 i] 83))
    generalize hv1 : wr.alloc (.cells #[.int .u64 tx, .int .u8 1, .int .u64 0, .int .u32 9, .int .u32 10, .int .u32 10, .int .u16 i] 83) = v1 at *
    obtain ⟨gG, hgG⟩ : ∃ z, z = wr.heap.size := ⟨_, rfl⟩
    rw [← hgG] at G0 ⊢
    have c2 := (b1.out.cell (p := ⟨b0, o0 + i, none⟩) (Nat.lt_of_lt_of_le hb0 BB.out.size)).trans c1
    have hGv : gG < v1.heap.size := blk_lt G0.out
    clear hv1 c1
    go_upto_region 13 with fail
    have D0 : Hid (OAt (v1.alloc (.cells #[.int .u8 0, .int .u32 0, .int .i64 0, .int .i64 0, .string ⟨#[]⟩, .slice none 0 0, .int .u8 0, .int .u8 0, .int .u32 0] 28)) v1.heap.size Od.zero (.slice none 0 0)) := OAt.new v1 Od.zero (.slice none 0 0)
    have b2 := Lib.hid (alloc_below v1 (.cells #[.int .u8 0, .int .u32 0, .int .i64 0, .int .i64 0, .string ⟨#[]⟩, .slice none 0 0, .int .u8 0, .int .u8 0, .int .u32 0] 28))
    generalize hv2 : v1.alloc (.cells #[.int .u8 0, .int .u32 0, .int .i64 0, .int .i64 0, .string ⟨#[]⟩, .slice none 0 0, .int .u8 0, .int .u8 0, .int .u32 0] 28) = v2 at *
    obtain ⟨gD, hgD⟩ : ∃ z, z = v1.heap.size := ⟨_, rfl⟩
    rw [← hgD] at D0 ⊢
    have c1 := (b2.out.cell (p := ⟨b0, o0 + i, none⟩) (Nat.lt_of_lt_of_le (Nat.lt_of_lt_of_le hb0 BB.out.size) b1.out.size)).trans c2
    have hGv2 : Hid (gG < gD ∧ gG = wr.heap.size ∧ gD = v1.heap.size ∧ wr.heap.size ≤ v1.heap.size) := ⟨by omega, hgG, hgD, b1.out.size⟩
    have G2 := Lib.hid (G0.out.below b2.out)
    have SA : Hid (StayAt g9 gS gN gB wr ⟨pa, pb, pc, pd, pe, rowsP⟩ A c st nm (.slice NA m ncp) cs) := by rw [HM.out]; exact SA.out
    have SA1 := Lib.hid (SA.out.below b1.out)
    have BB1 := Lib.hid (below_then BB.out b1.out)
    have B12 := b2
    have hwS : w.heap.size ≤ gS := by omega
    have hDv := blk_lt D0.out
    have hgBD : gB ≤ gD := by have := SA.out.lt4; have := b1.out.size; omega
    have hwD : w.heap.size ≤ gD := by omega
    clear hv2 c2 hgD hgG hGv G0 SA BB b1 b2
    have hgDv : Hid (gD = v1.heap.size) := hGv2.out.2.2.1
    have hGlt : gG < gD := hGv2.out.1
    clear hGv2
    go_upto_block 2 with fail
    rw [hsli]
    clear c1
    go_cut [6, 11] (fun s6 s11 wx => ∃ (er : Int) (o : Od) (st' nm' : Nat → Nat) (cs' cn' : List Nat), s11 = .int .i64 er ∧ Hid (OAt wx gD o (.slice none 0 0)) ∧ Hid (StayAt g9 gS gN gB wx ⟨pa, pb, pc, pd, pe, rowsP⟩ A c st' nm' s6 cs') ∧ Hid (Below w.heap.size w wx) ∧ (((er != 0) = true ∧ Hid (StayI ⟨pa, pb, pc, pd, pe, rowsP⟩ L st' nm' cs' cn' l1)) ∨ (er = 0 ∧ ∃ q L', Hid (StayN ⟨pa, pb, pc, pd, pe, rowsP⟩ o q L' st' nm' cs' cn' l1))))
    case first =>
      rcases (by omega : sl = 0 ∨ sl = 1 ∨ sl = 2 ∨ sl = 3) with h | h | h | h
      case inl =>
        obtain rfl : sl = 0 := h
        by_cases h2 : st tx = 2
        case pos =>
          have SA2 := Lib.hid (SA1.out.below B12.out)
          have BB2 := Lib.hid (below_then BB1.out B12.out)
          have c0 := SA2.out.sts.cell (i := tx) (by omega)
          (try simp only at c0)
          rw [h2] at c0
          have SU := Lib.hid (SI.out.up (j := l1) (by have := HL1.out; omega))
          clear h2
          go_wp2_with fail
          exact ⟨⟨l1, ⟨pa, pb, pc, pd, pe, rowsP⟩, L, st, nm, cs, cn, A, c, rfl, by have := HL1.out; omega, SU, SA2, BB2⟩, by have := HL1.out; simp only [intOf]; simp; omega⟩
        obtain ⟨o, q, L', hput, hN⟩ := stay_put SI.out htx1 htx2 h2 hi100 HL1.out
        have NX := Lib.hid hN
        have CP := Lib.hid fun sv W h => segPut_any ⟨pa, pb, pc, pd, pe, rowsP⟩ sv ⟨tx, 1, 0, 9, 10, 10, i⟩ W SI.out.1.fits.1 h (by have := SI.out.1.fits.2.1; omega) (show Sg.wf ⟨tx, 1, 0, 9, 10, 10, i⟩ from ⟨(show tx < 256 ^ 8 by omega), (show 1 < 256 by omega), (show 0 < 256 ^ 8 by omega), (show 9 < 256 ^ 4 by omega), (show 10 < 256 ^ 4 by omega), (show 10 < 256 ^ 4 by omega), (show i < 256 ^ 2 by omega)⟩)
        rw [hput] at CP
        obtain ⟨o0, o1, o2, o3, o4, o5, o6, o7, o8⟩ := o
        unfold pgV sgV odV at CP
        simp only at CP
        obtain ⟨v, hv⟩ : ∃ z, z = st tx := ⟨_, rfl⟩
        have hv2 : ((v : Int) == 2) = false := by simp; omega
        have HV := Lib.hid hv
        clear hput hN h2 hv
        have SA2 := Lib.hid (SA1.out.below B12.out)
        obtain ⟨x0, x1, x2, x3, x4, x5, x6⟩ := SA2.out.box.cells
        obtain ⟨s0, s1, s2, s3, s4, s5, s6, s7⟩ := G2.out.cells
        simp only at x0 x1 x2 x3 x4 x5 x6 s1 s2 s3 s4 s5 s6 s7
        have c0 := SA2.out.sts.cell (i := tx) (by omega)
        (try simp only at c0)
        rw [← HV.out] at c0
        go_wp2_with fail
        clear x0 x1 x2 x3 x4 x5 x6 s0 s1 s2 s3 s4 s5 s6 s7 c0
        refine (CP.out _ _ SA2.out.rows).mono ?_
        rintro e v3 ⟨rfl, hb⟩
        have D3 := Lib.hid (D0.out.under hb)
        have B13 := Lib.hid (below_then B12.out hb)
        obtain ⟨y0, y1, y2, y3, y4, y5, y6, y7, y8⟩ := D3.out.cells
        clear hb SA2 D0 B12 G2
        go_upto_region 22 with (refine wpList_store_op rfl (.tmp 10) (.tmp 81) rfl D3.out ⟨o0, o1, o2, o3, o4, o5, o6, o7, o8⟩ none 0 0 (by rfl) (by rfl) ?_; intro v4 hO hK; have D4 := Lib.hid hO; have K4 := Lib.hid hK; clear hO hK)
        clear y0 y1 y2 y3 y4 y5 y6 y7 y8
        have B14 : Hid (Below v1.heap.size v1 v4) := OthersKept.below B13.out K4.out (fun k hk e => by have := hgDv.out; omega)
        have SA4 := Lib.hid (SA1.out.below B14.out)
        have BB4 := Lib.hid (below_then BB1.out B14.out)
        clear D3 K4 B13
        have c0 := SA4.out.sts.cell (i := tx) (by omega)
        have f0 := SA4.out.sts.frozen tx
        have l0 := SA4.out.sts.lt
        (try simp only at c0)
        rw [← HV.out] at c0
        go_wp2_with fail
        have SA5 := Lib.hid (SA4.out.setS tx 1)
        have D5 : Hid (OAt (v4.setCell ⟨gS, tx, none⟩ (.int .u8 ((1 : Nat) : Int))) gD ⟨o0, o1, o2, o3, o4, o5, o6, o7, o8⟩ (.slice none 0 0)) := (one_kept v4 gS tx _).heap D4.out (by omega)
        have BB5 := Lib.hid (OthersKept.below BB4.out (one_kept v4 gS tx (.int .u8 ((1 : Nat) : Int))) (fun k hk e => by omega))
        go_meet
        exact ⟨0, _, _, _, _, _, rfl, D5, SA5, BB5, .inr ⟨rfl, _, _, NX⟩⟩
      case inr.inl =>
        obtain rfl : sl = 1 := h
        by_cases h2 : st tx = 2
        case pos =>
          have SA2 := Lib.hid (SA1.out.below B12.out)
          have BB2 := Lib.hid (below_then BB1.out B12.out)
          have c0 := SA2.out.sts.cell (i := tx) (by omega)
          (try simp only at c0)
          rw [h2] at c0
          have SU := Lib.hid (SI.out.up (j := l1) (by have := HL1.out; omega))
          clear h2
          go_wp2_with fail
          exact ⟨⟨l1, ⟨pa, pb, pc, pd, pe, rowsP⟩, L, st, nm, cs, cn, A, c, rfl, by have := HL1.out; omega, SU, SA2, BB2⟩, by have := HL1.out; simp only [intOf]; simp; omega⟩
        obtain ⟨o, q, L', hput, hN⟩ := stay_put SI.out htx1 htx2 h2 hi100 HL1.out
        have NX := Lib.hid hN
        have CP := Lib.hid fun sv W h => segPut_any ⟨pa, pb, pc, pd, pe, rowsP⟩ sv ⟨tx, 1, 0, 9, 10, 10, i⟩ W SI.out.1.fits.1 h (by have := SI.out.1.fits.2.1; omega) (show Sg.wf ⟨tx, 1, 0, 9, 10, 10, i⟩ from ⟨(show tx < 256 ^ 8 by omega), (show 1 < 256 by omega), (show 0 < 256 ^ 8 by omega), (show 9 < 256 ^ 4 by omega), (show 10 < 256 ^ 4 by omega), (show 10 < 256 ^ 4 by omega), (show i < 256 ^ 2 by omega)⟩)
        rw [hput] at CP
        obtain ⟨o0, o1, o2, o3, o4, o5, o6, o7, o8⟩ := o
        unfold pgV sgV odV at CP
        simp only at CP
        obtain ⟨v, hv⟩ : ∃ z, z = st tx := ⟨_, rfl⟩
        have hv2 : ((v : Int) == 2) = false := by simp; omega
        have HV := Lib.hid hv
        clear hput hN h2 hv
        have SA2 := Lib.hid (SA1.out.below B12.out)
        obtain ⟨x0, x1, x2, x3, x4, x5, x6⟩ := SA2.out.box.cells
        obtain ⟨s0, s1, s2, s3, s4, s5, s6, s7⟩ := G2.out.cells
        simp only at x0 x1 x2 x3 x4 x5 x6 s1 s2 s3 s4 s5 s6 s7
        have c0 := SA2.out.sts.cell (i := tx) (by omega)
        (try simp only at c0)
        rw [← HV.out] at c0
        go_wp2_with fail
        clear x0 x1 x2 x3 x4 x5 x6 s0 s1 s2 s3 s4 s5 s6 s7 c0
        refine (CP.out _ _ SA2.out.rows).mono ?_
        rintro e v3 ⟨rfl, hb⟩
        have D3 := Lib.hid (D0.out.under hb)
        have B13 := Lib.hid (below_then B12.out hb)
        obtain ⟨y0, y1, y2, y3, y4, y5, y6, y7, y8⟩ := D3.out.cells
        clear hb SA2 D0 B12 G2
        go_upto_region 22 with (refine wpList_store_op rfl (.tmp 10) (.tmp 81) rfl D3.out ⟨o0, o1, o2, o3, o4, o5, o6, o7, o8⟩ none 0 0 (by rfl) (by rfl) ?_; intro v4 hO hK; have D4 := Lib.hid hO; have K4 := Lib.hid hK; clear hO hK)
        clear y0 y1 y2 y3 y4 y5 y6 y7 y8
        have B14 : Hid (Below v1.heap.size v1 v4) := OthersKept.below B13.out K4.out (fun k hk e => by have := hgDv.out; omega)
        have SA4 := Lib.hid (SA1.out.below B14.out)
        have BB4 := Lib.hid (below_then BB1.out B14.out)
        clear D3 K4 B13
        have c0 := SA4.out.sts.cell (i := tx) (by omega)
        have f0 := SA4.out.sts.frozen tx
        have l0 := SA4.out.sts.lt
        (try simp only at c0)
        rw [← HV.out] at c0
        go_wp2_with fail
        have SA5 := Lib.hid (SA4.out.setS tx 1)
        have D5 : Hid (OAt (v4.setCell ⟨gS, tx, none⟩ (.int .u8 ((1 : Nat) : Int))) gD ⟨o0, o1, o2, o3, o4, o5, o6, o7, o8⟩ (.slice none 0 0)) := (one_kept v4 gS tx _).heap D4.out (by omega)
        have BB5 := Lib.hid (OthersKept.below BB4.out (one_kept v4 gS tx (.int .u8 ((1 : Nat) : Int))) (fun k hk e => by omega))
        go_meet
        exact ⟨0, _, _, _, _, _, rfl, D5, SA5, BB5, .inr ⟨rfl, _, _, NX⟩⟩
      case inr.inr.inl =>
        obtain rfl : sl = 2 := h
        have CP := Lib.hid fun sv W h => segCommit_any ⟨pa, pb, pc, pd, pe, rowsP⟩ sv tx l1 W SI.out.1.fits.1 h (by have := SI.out.1.fits.2.1; omega) (by omega)
        have hDR := stay_commit SI.out htx1 htx2 hi100 HL1.out
        obtain ⟨v, hv⟩ : ∃ z, z = st tx := ⟨_, rfl⟩
        by_cases h2 : st tx = 1
        case neg =>
          obtain ⟨er, hput, he1, he2⟩ := hDR.2 h2
          rw [hput] at CP
          have SU := Lib.hid (SI.out.up (j := l1) (by have := HL1.out; omega))
          have h0 : ((v : Int) == 1) = false := by simp; omega
          have HV := Lib.hid hv
          unfold pgV odV Od.zero at CP
          simp only [List.toArray] at CP
          (try simp only at CP)
          clear hDR h2 hput hv
          have SA2 := Lib.hid (SA1.out.below B12.out)
          obtain ⟨x0, x1, x2, x3, x4, x5, x6⟩ := SA2.out.box.cells
          obtain ⟨s0, s1, s2, s3, s4, s5, s6, s7⟩ := G2.out.cells
          simp only at x0 x1 x2 x3 x4 x5 x6 s1 s2 s3 s4 s5 s6 s7
          have c0 := SA2.out.sts.cell (i := tx) (by omega)
          (try simp only at c0)
          rw [← HV.out] at c0
          go_wp2_with fail
          clear x0 x1 x2 x3 x4 x5 x6 s0 s1 s2 s3 s4 s5 s6 s7 c0
          refine (CP.out _ _ SA2.out.rows).mono ?_
          rintro e v3 ⟨rfl, hb⟩
          have D3 := Lib.hid (D0.out.under hb)
          have B13 := Lib.hid (below_then B12.out hb)
          obtain ⟨y0, y1, y2, y3, y4, y5, y6, y7, y8⟩ := D3.out.cells
          clear hb SA2 D0 B12 G2
          go_upto_region 27 with (refine wpList_store_op rfl (.tmp 10) (.tmp 97) rfl D3.out Od.zero none 0 0 (by rfl) (by rfl) ?_; intro v4 hO hK; have D4 := Lib.hid hO; have K4 := Lib.hid hK; clear hO hK)
          clear y0 y1 y2 y3 y4 y5 y6 y7 y8
          have B14 : Hid (Below v1.heap.size v1 v4) := OthersKept.below B13.out K4.out (fun k hk e => by have := hgDv.out; omega)
          have SA4 := Lib.hid (SA1.out.below B14.out)
          have BB4 := Lib.hid (below_then BB1.out B14.out)
          clear D3 K4 B13
          have c0 := SA4.out.sts.cell (i := tx) (by omega)
          have f0 := SA4.out.sts.frozen tx
          have l0 := SA4.out.sts.lt
          (try simp only at c0)
          rw [← HV.out] at c0
          go_wp2_with fail
          go_meet
          exact ⟨er, _, _, _, _, _, rfl, D4, SA4, BB4, .inl ⟨he2, SU⟩⟩
        obtain ⟨o, q, L', hput, hN⟩ := hDR.1 h2
        have NX := Lib.hid hN
        rw [hput] at CP
        obtain ⟨o0, o1, o2, o3, o4, o5, o6, o7, o8⟩ := o
        unfold pgV odV at CP
        simp only at CP
        have h0 : v = 1 := by omega
        subst h0
        have HV := Lib.hid hv
        clear hput hN h2 hDR hv
        have SA2 := Lib.hid (SA1.out.below B12.out)
        obtain ⟨x0, x1, x2, x3, x4, x5, x6⟩ := SA2.out.box.cells
        obtain ⟨s0, s1, s2, s3, s4, s5, s6, s7⟩ := G2.out.cells
        simp only at x0 x1 x2 x3 x4 x5 x6 s1 s2 s3 s4 s5 s6 s7
        have c0 := SA2.out.sts.cell (i := tx) (by omega)
        (try simp only at c0)
        rw [← HV.out] at c0
        go_wp2_with fail
        clear x0 x1 x2 x3 x4 x5 x6 s0 s1 s2 s3 s4 s5 s6 s7 c0
        refine (CP.out _ _ SA2.out.rows).mono ?_
        rintro e v3 ⟨rfl, hb⟩
        have D3 := Lib.hid (D0.out.under hb)
        have B13 := Lib.hid (below_then B12.out hb)
        obtain ⟨y0, y1, y2, y3, y4, y5, y6, y7, y8⟩ := D3.out.cells
        clear hb SA2 D0 B12 G2
        go_upto_region 27 with (refine wpList_store_op rfl (.tmp 10) (.tmp 97) rfl D3.out ⟨o0, o1, o2, o3, o4, o5, o6, o7, o8⟩ none 0 0 (by rfl) (by rfl) ?_; intro v4 hO hK; have D4 := Lib.hid hO; have K4 := Lib.hid hK; clear hO hK)
        clear y0 y1 y2 y3 y4 y5 y6 y7 y8
        have B14 : Hid (Below v1.heap.size v1 v4) := OthersKept.below B13.out K4.out (fun k hk e => by have := hgDv.out; omega)
        have SA4 := Lib.hid (SA1.out.below B14.out)
        have BB4 := Lib.hid (below_then BB1.out B14.out)
        clear D3 K4 B13
        have c0 := SA4.out.sts.cell (i := tx) (by omega)
        have f0 := SA4.out.sts.frozen tx
        have l0 := SA4.out.sts.lt
        (try simp only at c0)
        rw [← HV.out] at c0
        go_upto_region 31 with fail
        have SA5 := Lib.hid (SA4.out.setS tx 2)
        have D5 : Hid (OAt (v4.setCell ⟨gS, tx, none⟩ (.int .u8 ((2 : Nat) : Int))) gD ⟨o0, o1, o2, o3, o4, o5, o6, o7, o8⟩ (.slice none 0 0)) := (one_kept v4 gS tx _).heap D4.out (by omega)
        have BB5 := Lib.hid (OthersKept.below BB4.out (one_kept v4 gS tx (.int .u8 ((2 : Nat) : Int))) (fun k hk e => by omega))
        generalize v4.setCell ⟨gS, tx, none⟩ _ = v5 at *
        clear c0 f0 l0 SA4 D4 BB4
        have c0 := SA5.out.nms.cell (i := tx) (by omega)
        have f0 := SA5.out.nms.frozen tx
        have l0 := SA5.out.nms.lt
        (try simp only at c0)
        go_upto_region 32 with fail
        have SA6 := Lib.hid (SA5.out.setN tx l1)
        have D6 : Hid (OAt (v5.setCell ⟨gN, tx, none⟩ (.int .u64 (l1 : Int))) gD ⟨o0, o1, o2, o3, o4, o5, o6, o7, o8⟩ (.slice none 0 0)) := (one_kept v5 gN tx _).heap D5.out (by omega)
        have BB6 := Lib.hid (OthersKept.below BB5.out (one_kept v5 gN tx (.int .u64 (l1 : Int))) (fun k hk e => by omega))
        generalize v5.setCell ⟨gN, tx, none⟩ _ = v6 at *
        clear c0 f0 l0 SA5 D5 BB5
        have ba := alloc_below v6 (.cells #[.int .u64 tx] 23)
        have hq6 : Hid (∀ q, (Value.slice NA m ncp).ownBlock = some q → gB ≤ q ∧ q < gD) := fun q hq => ⟨(SA1.out.own.lt q hq).1, by have := (SA1.out.own.lt q hq).2; have := hgDv.out; omega⟩
        have SA7 := Lib.hid (SA6.out.below ba)
        have D7 := Lib.hid (D6.out.under ba)
        have BB7 := Lib.hid (below_then BB6.out ba)
        have R7 : Hid (∀ j u, [Value.int .u64 (tx : Int)][j]? = some u → (v6.alloc (.cells #[.int .u64 tx] 23)).cell? ((⟨v6.heap.size, 0, none⟩ : Addr).add j) = some u) := by
          show ∀ j u, _
          intro j u hu
          rw [Addr.add_lit, show 0 + j = j by omega, blk_cell (heap_alloc_new v6 _)]
          simpa using hu
        have O7 : Hid ((v6.alloc (.cells #[.int .u64 tx] 23)).ownsRow gB 23 1 (.slice NA m ncp) m (n64 cs)) := by rw [HM.out]; have := SA7.out.own; rw [HM.out] at this; exact this
        have hg7 : gB ≤ (v6.alloc (.cells #[.int .u64 tx] 23)).heap.size := SA7.out.lt4
        have hb7 : w.heap.size ≤ (v6.alloc (.cells #[.int .u64 tx] 23)).heap.size := BB7.out.size
        have hm100 : m ≤ 100 := by have := SI.out.2.2.2; have := HM.out; omega
        clear ba SA6 D6 BB6
        go_wp2_with (at_builtin; refine wpList_append_two rfl _ _ 102 rfl gB 23 i0 (.int .u64 0) 1 8 Try.underlying102 HI.out HI0.out HI1.out HI2.out rfl (by decide) _ _ _ (by rfl) O7.out ⟨v6.heap.size, 0, none⟩ 1 1 [.int .u64 (tx : Int)] (by rfl) rfl R7.out (by simp [Value.oneCell']) (by unfold maxLen; omega) (by omega) hg7 ?_; intro v' v8 hown6 hgrow6 hblk6; have SA8 := Lib.hid (SA7.out.app (by rw [← HM.out]; exact hown6) hgrow6 hblk6); have BB8 := Lib.hid (BB7.out.grown hgrow6 hb7 (fun j hj => by have := (hq6.out j hj).1; omega)); have D8 : Hid (OAt v8 gD ⟨o0, o1, o2, o3, o4, o5, o6, o7, o8⟩ (.slice none 0 0)) := (hgrow6.block gD (blk_lt D7.out) (fun e => by have := (hq6.out gD e.symm).2; omega)).trans D7.out; clear hown6 hgrow6 hblk6)
        go_meet
        exact ⟨0, _, _, _, _, _, rfl, D8, SA8, BB8, .inr ⟨rfl, _, _, NX⟩⟩
      case inr.inr.inr =>
        obtain rfl : sl = 3 := h
        have CP := Lib.hid fun sv W h => segDrop_any ⟨pa, pb, pc, pd, pe, rowsP⟩ sv tx W SI.out.1.fits.1 h (by have := SI.out.1.fits.2.1; omega)
        have hDR := stay_drop SI.out htx1 htx2 hi100 HL1.out
        obtain ⟨v, hv⟩ : ∃ z, z = st tx := ⟨_, rfl⟩
        by_cases h2 : st tx = 0
        case pos =>
          rw [hDR.2 h2] at CP
          have SU := Lib.hid (SI.out.up (j := l1) (by have := HL1.out; omega))
          have h0 : v = 0 := by omega
          subst h0
          have HV := Lib.hid hv
          unfold pgV odV Od.zero at CP
          simp only [List.toArray] at CP
          (try simp only at CP)
          clear hDR h2 hv
          have SA2 := Lib.hid (SA1.out.below B12.out)
          obtain ⟨x0, x1, x2, x3, x4, x5, x6⟩ := SA2.out.box.cells
          obtain ⟨s0, s1, s2, s3, s4, s5, s6, s7⟩ := G2.out.cells
          simp only at x0 x1 x2 x3 x4 x5 x6 s1 s2 s3 s4 s5 s6 s7
          have c0 := SA2.out.sts.cell (i := tx) (by omega)
          (try simp only at c0)
          rw [← HV.out] at c0
          go_wp2_with fail
          clear x0 x1 x2 x3 x4 x5 x6 s0 s1 s2 s3 s4 s5 s6 s7 c0
          refine (CP.out _ _ SA2.out.rows).mono ?_
          rintro e v3 ⟨rfl, hb⟩
          have D3 := Lib.hid (D0.out.under hb)
          have B13 := Lib.hid (below_then B12.out hb)
          obtain ⟨y0, y1, y2, y3, y4, y5, y6, y7, y8⟩ := D3.out.cells
          clear hb SA2 D0 B12 G2
          go_upto_region 15 with (refine wpList_store_op rfl (.tmp 10) (.tmp 56) rfl D3.out Od.zero none 0 0 (by rfl) (by rfl) ?_; intro v4 hO hK; have D4 := Lib.hid hO; have K4 := Lib.hid hK; clear hO hK)
          clear y0 y1 y2 y3 y4 y5 y6 y7 y8
          have B14 : Hid (Below v1.heap.size v1 v4) := OthersKept.below B13.out K4.out (fun k hk e => by have := hgDv.out; omega)
          have SA4 := Lib.hid (SA1.out.below B14.out)
          have BB4 := Lib.hid (below_then BB1.out B14.out)
          clear D3 K4 B13
          have c0 := SA4.out.sts.cell (i := tx) (by omega)
          have f0 := SA4.out.sts.frozen tx
          have l0 := SA4.out.sts.lt
          (try simp only at c0)
          rw [← HV.out] at c0
          go_wp2_with fail
          have SA5 := Lib.hid (SA4.out.setS tx 0)
          have D5 : Hid (OAt (v4.setCell ⟨gS, tx, none⟩ (.int .u8 ((0 : Nat) : Int))) gD Od.zero (.slice none 0 0)) := (one_kept v4 gS tx _).heap D4.out (by omega)
          have BB5 := Lib.hid (OthersKept.below BB4.out (one_kept v4 gS tx (.int .u8 ((0 : Nat) : Int))) (fun k hk e => by omega))
          rw [upd_id HV.out.symm] at SA5
          go_meet
          exact ⟨3, _, _, _, _, _, rfl, D5, SA5, BB5, .inl ⟨by decide, SU⟩⟩
        obtain ⟨o, q, L', hput, hN⟩ := hDR.1 h2
        have NX := Lib.hid hN
        rw [hput] at CP
        obtain ⟨o0, o1, o2, o3, o4, o5, o6, o7, o8⟩ := o
        unfold pgV odV at CP
        simp only at CP
        have hv2 : ((v : Int) != 0) = true := by simp; omega
        have HV := Lib.hid hv
        clear hput hN h2 hDR hv
        have SA2 := Lib.hid (SA1.out.below B12.out)
        obtain ⟨x0, x1, x2, x3, x4, x5, x6⟩ := SA2.out.box.cells
        obtain ⟨s0, s1, s2, s3, s4, s5, s6, s7⟩ := G2.out.cells
        simp only at x0 x1 x2 x3 x4 x5 x6 s1 s2 s3 s4 s5 s6 s7
        have c0 := SA2.out.sts.cell (i := tx) (by omega)
        (try simp only at c0)
        rw [← HV.out] at c0
        go_wp2_with fail
        clear x0 x1 x2 x3 x4 x5 x6 s0 s1 s2 s3 s4 s5 s6 s7 c0
        refine (CP.out _ _ SA2.out.rows).mono ?_
        rintro e v3 ⟨rfl, hb⟩
        have D3 := Lib.hid (D0.out.under hb)
        have B13 := Lib.hid (below_then B12.out hb)
        obtain ⟨y0, y1, y2, y3, y4, y5, y6, y7, y8⟩ := D3.out.cells
        clear hb SA2 D0 B12 G2
        go_upto_region 15 with (refine wpList_store_op rfl (.tmp 10) (.tmp 56) rfl D3.out ⟨o0, o1, o2, o3, o4, o5, o6, o7, o8⟩ none 0 0 (by rfl) (by rfl) ?_; intro v4 hO hK; have D4 := Lib.hid hO; have K4 := Lib.hid hK; clear hO hK)
        clear y0 y1 y2 y3 y4 y5 y6 y7 y8
        have B14 : Hid (Below v1.heap.size v1 v4) := OthersKept.below B13.out K4.out (fun k hk e => by have := hgDv.out; omega)
        have SA4 := Lib.hid (SA1.out.below B14.out)
        have BB4 := Lib.hid (below_then BB1.out B14.out)
        clear D3 K4 B13
        have c0 := SA4.out.sts.cell (i := tx) (by omega)
        have f0 := SA4.out.sts.frozen tx
        have l0 := SA4.out.sts.lt
        (try simp only at c0)
        rw [← HV.out] at c0
        go_wp2_with fail
        have SA5 := Lib.hid (SA4.out.setS tx 0)
        have D5 : Hid (OAt (v4.setCell ⟨gS, tx, none⟩ (.int .u8 ((0 : Nat) : Int))) gD ⟨o0, o1, o2, o3, o4, o5, o6, o7, o8⟩ (.slice none 0 0)) := (one_kept v4 gS tx _).heap D4.out (by omega)
        have BB5 := Lib.hid (OthersKept.below BB4.out (one_kept v4 gS tx (.int .u8 ((0 : Nat) : Int))) (fun k hk e => by omega))
        go_meet
        exact ⟨0, _, _, _, _, _, rfl, D5, SA5, BB5, .inr ⟨rfl, _, _, NX⟩⟩
    case rest =>
      clear D0 SA1 BB1 B12 G2
      obtain ⟨er, o, st', nm', cs', cn', rfl, D0, SA0, BB0, hcase⟩ := hcut
      have hDv := blk_lt D0.out
      rcases hcase with ⟨her, SU⟩ | ⟨her, q, L', NX⟩
      case inl =>
        go_wp2_with fail
        exact ⟨⟨l1, ⟨pa, pb, pc, pd, pe, rowsP⟩, L, st', nm', cs', cn', A, c, rfl, by have := HL1.out; omega, SU, SA0, BB0⟩, by have := HL1.out; simp only [intOf]; simp; omega⟩
      subst her
      have CA := Lib.hid fun sv W h => opApplyF_any ⟨pa, pb, pc, pd, pe, rowsP⟩ o sv (.slice none 0 0) l1 W h (by rw [NX.out.2.2.1]; exact TextsAt.nil W) SI.out.1.fits.1 NX.out.1 NX.out.2.1 (by omega) (by have := SI.out.1.fits.2.1; omega) (by have := SI.out.1.fits.2.2; omega)
      rw [NX.out.2.2.2.1] at CA
      have SN := Lib.hid NX.out.2.2.2.2
      obtain ⟨qa, qb, qc, qd, qe, rowsQ⟩ := q
      obtain ⟨o0, o1, o2, o3, o4, o5, o6, o7, o8⟩ := o
      unfold pgV odV at CA
      simp only at CA
      clear NX
      obtain ⟨x0, x1, x2, x3, x4, x5, x6⟩ := SA0.out.box.cells
      obtain ⟨y0, y1, y2, y3, y4, y5, y6, y7, y8⟩ := D0.out.cells
      simp only at x0 x1 x2 x3 x4 x5 x6 y0 y1 y2 y3 y4 y5 y6 y7 y8
      go_wp2_with fail
      clear x0 x1 x2 x3 x4 x5 x6 y0 y1 y2 y3 y4 y5 y6 y7 y8
      refine (CA.out _ _ SA0.out.rows).mono ?_
      rintro e w1 ⟨sv1, rfl, G, hb, hF1⟩
      (try simp only at G)
      obtain ⟨nq, hnq⟩ : ∃ z, z = rowsQ.length := ⟨_, rfl⟩
      have Hnq := Lib.hid hnq
      clear hnq
      have U1 := Lib.hid G
      obtain ⟨A1, cp1, hv1, _, _, _, _⟩ := G
      rw [← Hnq.out] at hv1
      subst hv1
      have FF1 := Lib.hid hF1
      clear hF1
      have SA1 := Lib.hid (SA0.out.below hb)
      have BB1 := Lib.hid (below_then BB0.out hb)
      have FQ : Hid (Far (.slice A1 nq cp1) u6 nq) := fun h0 q hq e => by
        have h1 := FF1.out q hq
        have h2 := (SA0.out.own.lt q e).2
        omega
      clear hb D0 hDv FF1 CA SA0 BB0
      (try unfold pgV)
      (try simp only)
      go_upto_region 35 with fail
      have BN := Lib.hid (alloc_below w1 (.cells #[.int .u8 qa, .int .u8 qb, .int .u32 qc, .int .u64 qd, .int .u32 qe, .slice A1 nq cp1] 26))
      have Q2 := Lib.hid (PgBox.new w1 qa qb qc qd qe (.slice A1 nq cp1))
      have hq2 := PgBox.lt Q2.out
      generalize w1.alloc (.cells #[.int .u8 qa, .int .u8 qb, .int .u32 qc, .int .u64 qd, .int .u32 qe, .slice A1 nq cp1] 26) = w2 at *
      have SA2 := Lib.hid (SA1.out.below BN.out)
      have BB2 := Lib.hid (below_then BB1.out BN.out)
      have U2 := Lib.hid (U1.out.below BN.out)
      clear SA1 BB1 U1 BN
      obtain ⟨x0, x1, x2, x3, x4, x5, x6⟩ := SA2.out.box.cells
      obtain ⟨z0, z1, z2, z3, z4, z5, z6⟩ := Q2.out.cells
      simp only at x0 x1 x2 x3 x4 x5 x6
      go_upto_region 38 with (refine wpList_store_pg rfl (.tmp 3) (.tmp 135) rfl SA2.out.box qa qb qc qd qe A1 nq cp1 (by rfl) (by rfl) ?_; intro w3 hP hK; have PF := Lib.hid hP; have KF := Lib.hid hK; clear hP hK)
      clear x0 x1 x2 x3 x4 x5 x6 z0 z1 z2 z3 z4 z5 z6 Q2 hq2
      have SA3 : Hid (StayAt g9 gS gN gB w3 ⟨qa, qb, qc, qd, qe, rowsQ⟩ A1 cp1 st' nm' u6 cs') := SA2.out.setP (q := ⟨qa, qb, qc, qd, qe, rowsQ⟩) (by simp only; rw [← Hnq.out]; exact PF.out) KF.out (by simp only; rw [← Hnq.out]; exact U2.out) (by simp only; rw [← Hnq.out]; exact FQ.out)
      have BB3 := Lib.hid (OthersKept.below BB2.out KF.out (fun k hk e => by omega))
      clear SA2 BB2 PF KF U2 FQ
      have CF := Lib.hid fun k sv W h => segFind_any ⟨qa, qb, qc, qd, qe, rowsQ⟩ sv k W SN.out.1.fits.1 h (by have := SN.out.1.fits.2.1; omega)
      unfold pgV sgV at CF
      simp only at CF
      go_wp2_with fail
      go_loopw [14] (fun s14 wr => ∃ k : Nat, s14 = .int .u64 k ∧ 1 ≤ k ∧ k ≤ 14 ∧ Hid (Below w3.heap.size w3 wr)) (fun v _ => 14 - (intOf v).toNat)
      case atStart => exact ⟨1, rfl, by omega, by omega, Lib.hid (Below.refl _ _)⟩
      case round =>
        obtain ⟨k, rfl, hk1, hk2, B9⟩ := hrel
        have SA4 := Lib.hid (SA3.out.below B9.out)
        have BB4 := Lib.hid (below_then BB3.out B9.out)
        by_cases hk13 : k ≤ 13
        case neg =>
          have hki : ¬ (k : Int) ≤ 13 := by omega
          have hkd : decide ((k : Int) ≤ 13) = false := decide_eq_false hki
          go_wp2_with fail
          exact ⟨⟨l1, ⟨qa, qb, qc, qd, qe, rowsQ⟩, L', st', nm', cs', cn', A1, cp1, rfl, by have := HL1.out; omega, SN, SA4, BB4⟩, by have := HL1.out; simp only [intOf]; simp; omega⟩
        have hki : (k : Int) ≤ 13 := by omega
        have hkd : decide ((k : Int) ≤ 13) = true := decide_eq_true hki
        have hk0 : (0 : Int) ≤ (k : Int) := by omega
        have hk20 : (k : Int) < 20 := by omega
        obtain ⟨⟨a0, a1, a2, a3, a4, a5, a6⟩, hfx, hx⟩ := st_find SN.out.1 SN.out.2.1 hk1 hk13
        have CK := Lib.hid fun sv W h => CF.out k sv W h
        rw [hfx] at CK
        obtain ⟨v, hv⟩ : ∃ z, z = st' k := ⟨_, rfl⟩
        obtain ⟨nu, hnu⟩ : ∃ z, z = nm' k := ⟨_, rfl⟩
        have hv2 : v ≤ 2 := by rw [hv]; exact SN.out.2.1.2.2 k
        rw [← hv] at CK hx
        have hz : ∃ bb : Bool, decide (v ≠ 0) = bb ∧ (((v : Int) != 0) = bb) := ⟨decide (v ≠ 0), rfl, by rw [Bool.eq_iff_iff]; simp⟩
        obtain ⟨bb, hb1, hb2⟩ := hz
        rw [hb1] at CK
        have HB1 := Lib.hid hb1
        have HB2 := Lib.hid hb2
        clear hb1 hb2
        rw [← hnu] at hx
        have HV := Lib.hid hv
        have HN := Lib.hid hnu
        simp only at CK hx
        clear hfx hv hnu
        obtain ⟨x0, x1, x2, x3, x4, x5, x6⟩ := SA4.out.box.cells
        simp only at x0 x1 x2 x3 x4 x5 x6
        go_wp2_with fail
        clear x0 x1 x2 x3 x4 x5 x6
        refine (CK.out _ _ SA4.out.rows).mono ?_
        rintro e w5 ⟨rfl, hb⟩
        have SA5 := Lib.hid (SA4.out.below hb)
        have B10 := Lib.hid (below_then B9.out hb)
        clear hb CK SA4 BB4 B9
        go_upto_region 42 with fail
        have BN := Lib.hid (alloc_below w5 (.cells #[.int .u64 a0, .int .u8 a1, .int .u64 a2, .int .u32 a3, .int .u32 a4, .int .u32 a5, .int .u16 a6] 83))
        have X6 : Hid (SgBox (w5.alloc (.cells #[.int .u64 a0, .int .u8 a1, .int .u64 a2, .int .u32 a3, .int .u32 a4, .int .u32 a5, .int .u16 a6] 83)) w5.heap.size ⟨a0, a1, a2, a3, a4, a5, a6⟩) := heap_alloc_new w5 _
        obtain ⟨gX, hgX⟩ : ∃ z, z = w5.heap.size := ⟨_, rfl⟩
        rw [← hgX] at X6 ⊢
        clear hgX
        generalize w5.alloc (.cells #[.int .u64 a0, .int .u8 a1, .int .u64 a2, .int .u32 a3, .int .u32 a4, .int .u32 a5, .int .u16 a6] 83) = w6 at *
        have SA6 := Lib.hid (SA5.out.below BN.out)
        have B11 := Lib.hid (below_then B10.out BN.out)
        clear SA5 B10 BN
        obtain ⟨s0, s1, s2, s3, s4, s5, s6, s7⟩ := X6.out.cells
        simp only at s1 s2 s3 s4 s5 s6 s7
        have d0 := SA6.out.sts.cell (i := k) (by omega)
        have d1 := SA6.out.nms.cell (i := k) (by omega)
        (try simp only at d0 d1)
        rw [← HV.out] at d0
        rw [← HN.out] at d1
        have z0 := ext_cell d0 SA6.out.sts.lt
        have z1 := ext_cell d1 SA6.out.nms.lt
        have z2 := ext_cell s2 s0
        have z3 := ext_cell s3 s0
        clear d0 d1 s1 s2 s3 s4 s5 s6 s7 X6
        have hb2 := HB2.out
        have hb1 := HB1.out
        clear HB1 HB2
        cases bb with
        | false =>
          have hbb : (false != false) = false := rfl
          clear hx hb1
          refine wp_region_ext w6.heap.size (by kernel_rfl) (by kernel_rfl) ?_
          repeat (go_big_quiet_step (fail))
          refine wpQuiet_nil ?_
          rintro _ ⟨X, rfl⟩
          have hX := Lib.hid (below_then B11.out X.below)
          clear z0 z1 z2 z3 SA6 B11
          go_wp2_with fail
          exact ⟨⟨k + 1, by go_num, by omega, by omega, hX⟩, by simp [intOf]; omega⟩
        | true =>
          have hv0 : v ≠ 0 := of_decide_eq_true hb1
          obtain ⟨hx1, hx2⟩ := hx hv0
          subst hx1
          have hxx : ((a1 : Int) != (a1 : Int)) = false := by simp
          clear hx hb1
          by_cases hv22 : a1 = 2
          case pos =>
            obtain rfl := hx2 hv22
            have hyy : ((a2 : Int) != (a2 : Int)) = false := by simp
            have hw2 : ((a1 : Int) == 2) = true := by simp; omega
            clear hx2 hv22
            refine wp_region_ext w6.heap.size (by kernel_rfl) (by kernel_rfl) ?_
            repeat (go_big_quiet_step (fail))
            refine wpQuiet_nil ?_
            rintro _ ⟨X, rfl⟩
            have hX := Lib.hid (below_then B11.out X.below)
            clear z0 z1 z2 z3 SA6 B11
            go_wp2_with fail
            exact ⟨⟨k + 1, by go_num, by omega, by omega, hX⟩, by simp [intOf]; omega⟩
          case neg =>
            have hw2 : ((a1 : Int) == 2) = false := by simp; omega
            clear hx2 hv22
            refine wp_region_ext w6.heap.size (by kernel_rfl) (by kernel_rfl) ?_
            repeat (go_big_quiet_step (fail))
            refine wpQuiet_nil ?_
            rintro _ ⟨X, rfl⟩
            have hX := Lib.hid (below_then B11.out X.below)
            clear z0 z1 z2 z3 SA6 B11
            go_wp2_with fail
            exact ⟨⟨k + 1, by go_num, by omega, by omega, hX⟩, by simp [intOf]; omega⟩
end Go.Proofs.Ytienlhnbmobinaa
end
