/- Kept of our texts for this claim: SegWorks SegTell -/
import Derived.Test.YtienlhnbmobinaaGreatRows
import Derived.Test.YtienlhnbmobinaaGreatAdAt
import Derived.Test.YtienlhnbmobinaaGreatAdAz
import Derived.Test.YtienlhnbmobinaaGreatAdBa
import Derived.Test.YtienlhnbmobinaaGreatAdBb
import Derived.Test.YtienlhnbmobinaaGreatAdAu
import Derived.Test.YtienlhnbmobinaaGreatAdAs
import Derived.Test.YtienlhnbmobinaaGreatAdAa
import Derived.Test.YtienlhnbmobinaaGreatAdAc
import Derived.Test.YtienlhnbmobinaaGreatAdAk
import Derived.Test.YtienlhnbmobinaaGreatAdAb
import Derived.Test.YtienlhnbmobinaaGreatAdAr
import Derived.WalkKit
import Derived.WalkLawsBesides
import Derived.WalkSpells
import Derived.LoopTactic
import Derived.WalkMore
import Derived.LoopN
import Derived.Laws.BitsAllLaws
import Derived.Laws.IdiomStrings
import Derived.BigQuiet
import Derived.Deep.QuietTactic
import Derived.Deep.DeepCutAuto
import Derived.Deep.RegionHeld3
import Derived.Deep.DrawnRows
import Derived.Lib.Hide
import Derived.Outline
import Derived.Deep.DeepMust
import Derived.Handy
import Derived.Test.YtienlhnbmobinaaGreatAdAq
import Derived.Test.YtienlhnbmobinaaGreatAdAl
import Derived.Deep.CutBlock
import Derived.Test.YtienlhnbmobinaaGreatAdBc
import Derived.Test.YtienlhnbmobinaaGreatAdAy
import Derived.Test.YtienlhnbmobinaaGreatAdAw
import Derived.Test.YtienlhnbmobinaaGreatAdAm
import Derived.Deep.LoopGhost
import Derived.Test.YtienlhnbmobinaaGreatAdAd
import Derived.Test.YtienlhnbmobinaaGreatAdAn
import Derived.Deep.OwnRows
section
/- chapter 22: works -/
namespace Go.Proofs.YtienlhnbmobinaaGreat
open Go.RowKit
set_option linter.unusedVariables false
set_option linter.unusedSimpArgs false
theorem PgsIn.one (w : World) (p : Pg) (sp : Value) (hp : TextsAt w sp p.rows) : PgsIn (w.alloc (.cells #[.int .u8 p.kind, .int .u8 p.level, .int .u32 p.id, .int .u64 p.lsn, .int .u32 p.next, sp] 26)) (.slice (some ⟨w.heap.size, 0, none⟩) 1 1) [(p, sp)] := by
  have hb := heap_alloc_new w (.cells #[.int .u8 p.kind, .int .u8 p.level, .int .u32 p.id, .int .u64 p.lsn, .int .u32 p.next, sp] 26)
  refine ⟨_, rfl, by simp, fun j hj => ?_⟩
  have hj0 : j = 0 := by simp at hj; omega
  subst hj0
  exact ⟨hp.below (alloc_below _ _), by rw [blk_cell hb]; rfl, by rw [blk_cell hb]; rfl, by rw [blk_cell hb]; rfl, by rw [blk_cell hb]; rfl, by rw [blk_cell hb]; rfl, by rw [blk_cell hb]; rfl⟩
theorem PgsIn.two (w : World) (p q : Pg) (sp sq : Value) (hp : TextsAt w sp p.rows) (hq : TextsAt w sq q.rows) : PgsIn (w.alloc (.cells #[.int .u8 p.kind, .int .u8 p.level, .int .u32 p.id, .int .u64 p.lsn, .int .u32 p.next, sp, .int .u8 q.kind, .int .u8 q.level, .int .u32 q.id, .int .u64 q.lsn, .int .u32 q.next, sq] 26)) (.slice (some ⟨w.heap.size, 0, none⟩) 2 2) [(p, sp), (q, sq)] := by
  have hb := heap_alloc_new w (.cells #[.int .u8 p.kind, .int .u8 p.level, .int .u32 p.id, .int .u64 p.lsn, .int .u32 p.next, sp, .int .u8 q.kind, .int .u8 q.level, .int .u32 q.id, .int .u64 q.lsn, .int .u32 q.next, sq] 26)
  refine ⟨_, rfl, by simp, fun j hj => ?_⟩
  match j, hj with
  | 0, _ => exact ⟨hp.below (alloc_below _ _), by rw [blk_cell hb]; rfl, by rw [blk_cell hb]; rfl, by rw [blk_cell hb]; rfl, by rw [blk_cell hb]; rfl, by rw [blk_cell hb]; rfl, by rw [blk_cell hb]; rfl⟩
  | 1, _ => exact ⟨hq.below (alloc_below _ _), by rw [blk_cell hb]; rfl, by rw [blk_cell hb]; rfl, by rw [blk_cell hb]; rfl, by rw [blk_cell hb]; rfl, by rw [blk_cell hb]; rfl, by rw [blk_cell hb]; rfl⟩
  | n + 2, h => exact absurd h (by simp)
set_option maxHeartbeats 8000000 in
set_option maxRecDepth 100000 in
theorem works22_any (w : World) : Calls Tryz.prog 5 #[] w fun e w' => e = .returned (.bool true) ∧ Below w.heap.size w w' := by
  obtain ⟨o, q, c, r, hput, ⟨ho1, ho2, ho3⟩, hap, ⟨hq1, hq2, hq3⟩, hfind, hcom, ⟨hc1, hc2, hc3⟩, hap2, ⟨hr1, hr2, hr3⟩, hall2, hall1, hdrop⟩ := works_law
  have hw0 : wP0.wf := (head_seg 3 (by decide) (by decide)).1
  have CH : ∀ W, Calls Tryz.prog 14 #[.int .u32 3] W fun e w' => ∃ sv, e = .returned (pgV wP0 sv) ∧ TextsAt w' sv wP0.rows ∧ Below W.heap.size W w' := fun W => (head22_any 3 W).mono fun e w' ⟨h1, h2⟩ => ⟨.slice none 0 0, h1, TextsAt.nil _, h2⟩
  have CP : ∀ sv W, TextsAt W sv wP0.rows → Calls Tryz.prog 15 #[pgV wP0 sv, .agg #[.int .u64 7, .int .u8 1, .int .u64 0, .int .u32 9, .int .u32 9, .int .u32 9, .int .u16 0]] W fun e w' => e = .returned (.tuple #[odV o (.slice none 0 0), .int .i64 0]) ∧ Below W.heap.size W w' := fun sv W h => by
    have := segPut_any wP0 sv wSg W hw0 h (by decide) (by unfold wSg Sg.wf; decide)
    rw [hput] at this
    exact this
  have CA := fun sv W (h : TextsAt W sv wP0.rows) => opApply_any wP0 o sv (.slice none 0 0) 1 W h (by rw [ho3]; exact TextsAt.nil W) hw0 ho1 ho2 (by decide) (by decide) (by decide)
  rw [hap] at CA
  have CF : ∀ sv W, TextsAt W sv q.rows → Calls Tryz.prog 17 #[pgV q sv, .int .u64 7] W fun e w' => e = .returned (.tuple #[.agg #[.int .u64 7, .int .u8 1, .int .u64 0, .int .u32 9, .int .u32 9, .int .u32 9, .int .u16 0], .bool true]) ∧ Below W.heap.size W w' := fun sv W h => by
    have := segFind_any q sv 7 W hq1 h (by omega)
    rw [hfind] at this
    exact this
  have CC : ∀ sv W, TextsAt W sv q.rows → Calls Tryz.prog 18 #[pgV q sv, .int .u64 7, .int .u64 4] W fun e w' => e = .returned (.tuple #[odV c (.slice none 0 0), .int .i64 0]) ∧ Below W.heap.size W w' := fun sv W h => by
    have := segCommit_any q sv 7 4 W hq1 h (by omega) (by decide)
    rw [hcom] at this
    exact this
  have CB := fun sv W (h : TextsAt W sv q.rows) => opApply_any q c sv (.slice none 0 0) 2 W h (by rw [hc3]; exact TextsAt.nil W) hq1 hc1 hc2 (by decide) (by omega) (by omega)
  rw [hap2] at CB
  have CI : ∀ v s1 s2 W, PgsIn W v [(r, s1), (wP0, s2)] → Calls Tryz.prog 19 #[v] W fun e w' => ∃ u, e = .returned u ∧ SegsAt w' u [wSg.done 4] ∧ Below W.heap.size W w' := fun v s1 s2 W h => by
    refine (segHistory_any [(r, s1), (wP0, s2)] v W h (fun e he => ?_) (by simp) (by simp only [List.map_cons, List.map_nil]; rw [hall2]; decide)).mono fun e w' ⟨u, H, e1, e2, e3, _, e4⟩ => ⟨u, e1, ?_, e4⟩
    · rcases List.mem_cons.1 he with rfl | he
      · exact ⟨hr1, by show weightB r.rows ≤ _; omega⟩
      · rw [List.mem_singleton.1 he]; exact ⟨hw0, (show weightB wP0.rows ≤ 1000000 by decide)⟩
    · simp only [List.map_cons, List.map_nil] at e3
      rw [hall2] at e3
      rw [List.perm_singleton.1 e3] at e2
      exact e2
  have CJ : ∀ v s1 W, PgsIn W v [(q, s1)] → Calls Tryz.prog 21 #[v] W fun e w' => ∃ u, e = .returned u ∧ SegsAt w' u [wSg] ∧ Below W.heap.size W w' := fun v s1 W h => by
    refine (segActive_any [(q, s1)] v W h (fun e he => ?_) (by simp) (by simp only [List.map_cons, List.map_nil]; rw [hall1]; decide)).mono fun e w' ⟨u, H, e1, e2, e3, _, e4⟩ => ⟨u, e1, ?_, e4⟩
    · rw [List.mem_singleton.1 he]; exact ⟨hq1, by show weightB q.rows ≤ _; omega⟩
    · simp only [List.map_cons, List.map_nil] at e3
      rw [hall1] at e3
      rw [List.perm_singleton.1 e3] at e2
      exact e2
  have CD : ∀ sv W, TextsAt W sv wP0.rows → Calls Tryz.prog 20 #[pgV wP0 sv, .int .u64 7] W fun e w' => e = .returned (.tuple #[odV Od.zero (.slice none 0 0), .int .i64 3]) ∧ Below W.heap.size W w' := fun sv W h => by
    have := segDrop_any wP0 sv 7 W hw0 h (by decide)
    rw [hdrop] at this
    exact this
  have CO : ∀ W, Calls Tryz.prog 22 #[.int .u64 7] W fun e w' => e = .returned (.int .i64 3) ∧ W = w' := fun W => of22_any 7 W (by decide)
  obtain ⟨⟨pa, pb, pc, pd, pe, rowsP⟩, hP⟩ : ∃ P, P = wP0 := ⟨_, rfl⟩
  rw [← hP] at CH CP CA CI CD
  have CH := Lib.hid CH
  have CP := Lib.hid CP
  have CA := Lib.hid CA
  have CF := Lib.hid CF
  have CC := Lib.hid CC
  have CB := Lib.hid CB
  have CI := Lib.hid CI
  have CJ := Lib.hid CJ
  have CD := Lib.hid CD
  have CO := Lib.hid CO
  clear hP hput ho1 ho2 ho3 hap hq1 hq2 hq3 hfind hcom hc1 hc2 hc3 hap2 hr1 hr2 hr3 hall2 hall1 hdrop hw0
  obtain ⟨o0, o1, o2, o3, o4, o5, o6, o7, o8⟩ := o
  obtain ⟨c0, c1, c2, c3, c4, c5, c6, c7, c8⟩ := c
  obtain ⟨qa, qb, qc, qd, qe, rowsQ⟩ := q
  obtain ⟨ra, rb, rc, rd, re, rowsR⟩ := r
  unfold pgV at CH CP CA CF CC CB CD
  unfold odV at CP CA CC CB CD
  unfold Od.zero at CD
  simp only at CH CP CA CF CC CB CD
  have B0 := Lib.hid (Below.refl w.heap.size w)
  go_enter Tryz.func5, Tryz.ntmps5
  obtain ⟨w0, hw0⟩ : ∃ v, v = w := ⟨_, rfl⟩
  rw [← hw0]
  have B0 : Hid (Below w.heap.size w w0) := by rw [hw0]; exact Lib.hid (Below.refl _ _)
  have HW0 := Lib.hid hw0
  clear hw0
  go_wp2_with fail
  refine (CH.out _).mono ?_
  rintro e w1 ⟨sv1, rfl, G, hb⟩
  (try simp only at G)
  obtain ⟨np, hnp⟩ : ∃ z, z = rowsP.length := ⟨_, rfl⟩
  have Hnp := Lib.hid hnp
  clear hnp
  have T1 := Lib.hid G
  obtain ⟨A1, cp1, hv1, _, _, _, _⟩ := G
  rw [← Hnp.out] at hv1
  subst hv1
  have B1 := Lib.hid (below_then B0.out hb)
  clear hb B0 
  (try unfold pgV)
  (try simp only)
  go_upto_region 2 with fail
  have BN := Lib.hid (alloc_below w1 (.cells #[.int .u8 pa, .int .u8 pb, .int .u32 pc, .int .u64 pd, .int .u32 pe, .slice A1 np cp1] 26))
  have P2 := Lib.hid (PgBox.new w1 pa pb pc pd pe (.slice A1 np cp1))
  generalize w1.alloc (.cells #[.int .u8 pa, .int .u8 pb, .int .u32 pc, .int .u64 pd, .int .u32 pe, .slice A1 np cp1] 26) = w2 at *
  have hb := BN.out
  clear BN
  have B2 := Lib.hid (below_then B1.out hb)
  have T2 := Lib.hid (T1.out.below hb)
  clear hb B1 T1
  go_upto_region 3 with fail
  have BN := Lib.hid (alloc_below w2 (.cells #[.int .u64 7, .int .u8 1, .int .u64 0, .int .u32 9, .int .u32 9, .int .u32 9, .int .u16 0] 52))
  have G3 : Hid (SgBox (w2.alloc (.cells #[.int .u64 7, .int .u8 1, .int .u64 0, .int .u32 9, .int .u32 9, .int .u32 9, .int .u16 0] 52)) w2.heap.size ⟨7, 1, 0, 9, 9, 9, 0⟩) := heap_alloc_new w2 _
  generalize w2.alloc (.cells #[.int .u64 7, .int .u8 1, .int .u64 0, .int .u32 9, .int .u32 9, .int .u32 9, .int .u16 0] 52) = w3 at *
  have hb := BN.out
  clear BN
  have B3 := Lib.hid (below_then B2.out hb)
  have T3 := Lib.hid (T2.out.below hb)
  have P3 := Lib.hid (P2.out.below hb)
  clear hb B2 T2 P2
  obtain ⟨x0, x1, x2, x3, x4, x5, x6⟩ := P3.out.cells
  obtain ⟨s0, s1, s2, s3, s4, s5, s6, s7⟩ := G3.out.cells
  simp only at s1 s2 s3 s4 s5 s6 s7
  go_wp2_with fail
  clear x0 x1 x2 x3 x4 x5 x6 s0 s1 s2 s3 s4 s5 s6 s7
  refine (CP.out _ _ T3.out).mono ?_
  rintro e w4 ⟨rfl, hb⟩
  have B4 := Lib.hid (below_then B3.out hb)
  have T4 := Lib.hid (T3.out.below hb)
  have P4 := Lib.hid (P3.out.below hb)
  have G4 := Lib.hid (G3.out.below hb)
  clear hb B3 T3 P3 G3
  obtain ⟨x0, x1, x2, x3, x4, x5, x6⟩ := P4.out.cells
  obtain ⟨s0, s1, s2, s3, s4, s5, s6, s7⟩ := G4.out.cells
  simp only at s1 s2 s3 s4 s5 s6 s7
  (try unfold odV)
  (try simp only)
  go_upto_region 4 with fail
  clear x0 x1 x2 x3 x4 x5 x6 s0 s1 s2 s3 s4 s5 s6 s7
  have BN := Lib.hid (alloc_below w4 (.cells #[.int .u8 o0, .int .u32 o1, .int .i64 o2, .int .i64 o3, .string ⟨o4.toArray⟩, .slice none 0 0, .int .u8 o6, .int .u8 o7, .int .u32 o8] 40))
  have O5 := Lib.hid (OAt.new w4 ⟨o0, o1, o2, o3, o4, o5, o6, o7, o8⟩ (.slice none 0 0))
  generalize w4.alloc (.cells #[.int .u8 o0, .int .u32 o1, .int .i64 o2, .int .i64 o3, .string ⟨o4.toArray⟩, .slice none 0 0, .int .u8 o6, .int .u8 o7, .int .u32 o8] 40) = w5 at *
  have hb := BN.out
  clear BN
  have B5 := Lib.hid (below_then B4.out hb)
  have T5 := Lib.hid (T4.out.below hb)
  have P5 := Lib.hid (P4.out.below hb)
  have G5 := Lib.hid (G4.out.below hb)
  clear hb B4 T4 P4 G4
  obtain ⟨x0, x1, x2, x3, x4, x5, x6⟩ := P5.out.cells
  obtain ⟨s0, s1, s2, s3, s4, s5, s6, s7⟩ := G5.out.cells
  simp only at s1 s2 s3 s4 s5 s6 s7
  obtain ⟨y0, y1, y2, y3, y4, y5, y6, y7, y8⟩ := O5.out.cells
  simp only at y0 y1 y2 y3 y4 y5 y6 y7 y8
  have y9 := blk_lt O5.out
  go_wp2_with fail
  clear x0 x1 x2 x3 x4 x5 x6 s0 s1 s2 s3 s4 s5 s6 s7 y0 y1 y2 y3 y4 y5 y6 y7 y8 y9
  refine (CA.out _ _ T5.out).mono ?_
  rintro e w6 ⟨sv6, rfl, G, hb⟩
  (try simp only at G)
  obtain ⟨nq, hnq⟩ : ∃ z, z = rowsQ.length := ⟨_, rfl⟩
  have Hnq := Lib.hid hnq
  clear hnq
  have U6 := Lib.hid G
  obtain ⟨A6, cp6, hv6, _, _, _, _⟩ := G
  rw [← Hnq.out] at hv6
  subst hv6
  have B6 := Lib.hid (below_then B5.out hb)
  have T6 := Lib.hid (T5.out.below hb)
  have P6 := Lib.hid (P5.out.below hb)
  have G6 := Lib.hid (G5.out.below hb)
  have O6 := Lib.hid (O5.out.below hb)
  clear hb B5 T5 P5 G5 O5
  obtain ⟨x0, x1, x2, x3, x4, x5, x6⟩ := P6.out.cells
  obtain ⟨s0, s1, s2, s3, s4, s5, s6, s7⟩ := G6.out.cells
  simp only at s1 s2 s3 s4 s5 s6 s7
  obtain ⟨y0, y1, y2, y3, y4, y5, y6, y7, y8⟩ := O6.out.cells
  simp only at y0 y1 y2 y3 y4 y5 y6 y7 y8
  have y9 := blk_lt O6.out
  (try unfold pgV)
  (try simp only)
  go_upto_region 5 with fail
  clear x0 x1 x2 x3 x4 x5 x6 s0 s1 s2 s3 s4 s5 s6 s7 y0 y1 y2 y3 y4 y5 y6 y7 y8 y9
  have BN := Lib.hid (alloc_below w6 (.cells #[.int .u8 qa, .int .u8 qb, .int .u32 qc, .int .u64 qd, .int .u32 qe, .slice A6 nq cp6] 26))
  have Q7 := Lib.hid (PgBox.new w6 qa qb qc qd qe (.slice A6 nq cp6))
  generalize w6.alloc (.cells #[.int .u8 qa, .int .u8 qb, .int .u32 qc, .int .u64 qd, .int .u32 qe, .slice A6 nq cp6] 26) = w7 at *
  have hb := BN.out
  clear BN
  have B7 := Lib.hid (below_then B6.out hb)
  have T7 := Lib.hid (T6.out.below hb)
  have P7 := Lib.hid (P6.out.below hb)
  have G7 := Lib.hid (G6.out.below hb)
  have O7 := Lib.hid (O6.out.below hb)
  have U7 := Lib.hid (U6.out.below hb)
  clear hb B6 T6 P6 G6 O6 U6
  obtain ⟨x0, x1, x2, x3, x4, x5, x6⟩ := P7.out.cells
  obtain ⟨s0, s1, s2, s3, s4, s5, s6, s7⟩ := G7.out.cells
  simp only at s1 s2 s3 s4 s5 s6 s7
  obtain ⟨y0, y1, y2, y3, y4, y5, y6, y7, y8⟩ := O7.out.cells
  simp only at y0 y1 y2 y3 y4 y5 y6 y7 y8
  have y9 := blk_lt O7.out
  obtain ⟨z0, z1, z2, z3, z4, z5, z6⟩ := Q7.out.cells
  go_wp2_with fail
  clear x0 x1 x2 x3 x4 x5 x6 s0 s1 s2 s3 s4 s5 s6 s7 y0 y1 y2 y3 y4 y5 y6 y7 y8 y9 z0 z1 z2 z3 z4 z5 z6
  refine (CF.out _ _ U7.out).mono ?_
  rintro e w8 ⟨rfl, hb⟩
  have B8 := Lib.hid (below_then B7.out hb)
  have T8 := Lib.hid (T7.out.below hb)
  have P8 := Lib.hid (P7.out.below hb)
  have G8 := Lib.hid (G7.out.below hb)
  have O8 := Lib.hid (O7.out.below hb)
  have U8 := Lib.hid (U7.out.below hb)
  have Q8 := Lib.hid (Q7.out.below hb)
  clear hb B7 T7 P7 G7 O7 U7 Q7
  obtain ⟨x0, x1, x2, x3, x4, x5, x6⟩ := P8.out.cells
  obtain ⟨s0, s1, s2, s3, s4, s5, s6, s7⟩ := G8.out.cells
  simp only at s1 s2 s3 s4 s5 s6 s7
  obtain ⟨y0, y1, y2, y3, y4, y5, y6, y7, y8⟩ := O8.out.cells
  simp only at y0 y1 y2 y3 y4 y5 y6 y7 y8
  have y9 := blk_lt O8.out
  obtain ⟨z0, z1, z2, z3, z4, z5, z6⟩ := Q8.out.cells
  go_upto_region 6 with fail
  clear x0 x1 x2 x3 x4 x5 x6 s0 s1 s2 s3 s4 s5 s6 s7 y0 y1 y2 y3 y4 y5 y6 y7 y8 y9 z0 z1 z2 z3 z4 z5 z6
  have BN := Lib.hid (alloc_below w8 (.cells #[.int .u64 7, .int .u8 1, .int .u64 0, .int .u32 9, .int .u32 9, .int .u32 9, .int .u16 0] 52))
  have GX9 : Hid (SgBox (w8.alloc (.cells #[.int .u64 7, .int .u8 1, .int .u64 0, .int .u32 9, .int .u32 9, .int .u32 9, .int .u16 0] 52)) w8.heap.size ⟨7, 1, 0, 9, 9, 9, 0⟩) := heap_alloc_new w8 _
  generalize w8.alloc (.cells #[.int .u64 7, .int .u8 1, .int .u64 0, .int .u32 9, .int .u32 9, .int .u32 9, .int .u16 0] 52) = w9 at *
  have hb := BN.out
  clear BN
  have B9 := Lib.hid (below_then B8.out hb)
  have T9 := Lib.hid (T8.out.below hb)
  have P9 := Lib.hid (P8.out.below hb)
  have G9 := Lib.hid (G8.out.below hb)
  have O9 := Lib.hid (O8.out.below hb)
  have U9 := Lib.hid (U8.out.below hb)
  have Q9 := Lib.hid (Q8.out.below hb)
  clear hb B8 T8 P8 G8 O8 U8 Q8
  clear O9
  obtain ⟨x0, x1, x2, x3, x4, x5, x6⟩ := P9.out.cells
  obtain ⟨s0, s1, s2, s3, s4, s5, s6, s7⟩ := G9.out.cells
  simp only at s1 s2 s3 s4 s5 s6 s7
  obtain ⟨z0, z1, z2, z3, z4, z5, z6⟩ := Q9.out.cells
  obtain ⟨f0, f1, f2, f3, f4, f5, f6, f7⟩ := GX9.out.cells
  simp only at f1 f2 f3 f4 f5 f6 f7
  go_wp2_with fail
  clear x0 x1 x2 x3 x4 x5 x6 s0 s1 s2 s3 s4 s5 s6 s7 z0 z1 z2 z3 z4 z5 z6 f0 f1 f2 f3 f4 f5 f6 f7
  refine (CC.out _ _ U9.out).mono ?_
  rintro e w10 ⟨rfl, hb⟩
  have B10 := Lib.hid (below_then B9.out hb)
  have T10 := Lib.hid (T9.out.below hb)
  have P10 := Lib.hid (P9.out.below hb)
  have G10 := Lib.hid (G9.out.below hb)
  have U10 := Lib.hid (U9.out.below hb)
  have Q10 := Lib.hid (Q9.out.below hb)
  have GX10 := Lib.hid (GX9.out.below hb)
  clear hb B9 T9 P9 G9 U9 Q9 GX9
  obtain ⟨x0, x1, x2, x3, x4, x5, x6⟩ := P10.out.cells
  obtain ⟨s0, s1, s2, s3, s4, s5, s6, s7⟩ := G10.out.cells
  simp only at s1 s2 s3 s4 s5 s6 s7
  obtain ⟨z0, z1, z2, z3, z4, z5, z6⟩ := Q10.out.cells
  obtain ⟨f0, f1, f2, f3, f4, f5, f6, f7⟩ := GX10.out.cells
  simp only at f1 f2 f3 f4 f5 f6 f7
  (try unfold odV)
  (try simp only)
  go_upto_region 7 with fail
  clear x0 x1 x2 x3 x4 x5 x6 s0 s1 s2 s3 s4 s5 s6 s7 z0 z1 z2 z3 z4 z5 z6 f0 f1 f2 f3 f4 f5 f6 f7
  have BN := Lib.hid (alloc_below w10 (.cells #[.int .u8 c0, .int .u32 c1, .int .i64 c2, .int .i64 c3, .string ⟨c4.toArray⟩, .slice none 0 0, .int .u8 c6, .int .u8 c7, .int .u32 c8] 40))
  have OC11 := Lib.hid (OAt.new w10 ⟨c0, c1, c2, c3, c4, c5, c6, c7, c8⟩ (.slice none 0 0))
  generalize w10.alloc (.cells #[.int .u8 c0, .int .u32 c1, .int .i64 c2, .int .i64 c3, .string ⟨c4.toArray⟩, .slice none 0 0, .int .u8 c6, .int .u8 c7, .int .u32 c8] 40) = w11 at *
  have hb := BN.out
  clear BN
  have B11 := Lib.hid (below_then B10.out hb)
  have T11 := Lib.hid (T10.out.below hb)
  have P11 := Lib.hid (P10.out.below hb)
  have G11 := Lib.hid (G10.out.below hb)
  have U11 := Lib.hid (U10.out.below hb)
  have Q11 := Lib.hid (Q10.out.below hb)
  have GX11 := Lib.hid (GX10.out.below hb)
  clear hb B10 T10 P10 G10 U10 Q10 GX10
  obtain ⟨x0, x1, x2, x3, x4, x5, x6⟩ := P11.out.cells
  obtain ⟨s0, s1, s2, s3, s4, s5, s6, s7⟩ := G11.out.cells
  simp only at s1 s2 s3 s4 s5 s6 s7
  obtain ⟨z0, z1, z2, z3, z4, z5, z6⟩ := Q11.out.cells
  obtain ⟨f0, f1, f2, f3, f4, f5, f6, f7⟩ := GX11.out.cells
  simp only at f1 f2 f3 f4 f5 f6 f7
  obtain ⟨v0, v1, v2, v3, v4, v5, v6, v7, v8⟩ := OC11.out.cells
  simp only at v0 v1 v2 v3 v4 v5 v6 v7 v8
  have v9 := blk_lt OC11.out
  go_wp2_with fail
  clear x0 x1 x2 x3 x4 x5 x6 s0 s1 s2 s3 s4 s5 s6 s7 z0 z1 z2 z3 z4 z5 z6 f0 f1 f2 f3 f4 f5 f6 f7 v0 v1 v2 v3 v4 v5 v6 v7 v8 v9
  refine (CB.out _ _ U11.out).mono ?_
  rintro e w12 ⟨sv12, rfl, G, hb⟩
  (try simp only at G)
  obtain ⟨nr, hnr⟩ : ∃ z, z = rowsR.length := ⟨_, rfl⟩
  have Hnr := Lib.hid hnr
  clear hnr
  have S12 := Lib.hid G
  obtain ⟨A12, cp12, hv12, _, _, _, _⟩ := G
  rw [← Hnr.out] at hv12
  subst hv12
  have B12 := Lib.hid (below_then B11.out hb)
  have T12 := Lib.hid (T11.out.below hb)
  have P12 := Lib.hid (P11.out.below hb)
  have G12 := Lib.hid (G11.out.below hb)
  have U12 := Lib.hid (U11.out.below hb)
  have Q12 := Lib.hid (Q11.out.below hb)
  have GX12 := Lib.hid (GX11.out.below hb)
  have OC12 := Lib.hid (OC11.out.below hb)
  clear hb B11 T11 P11 G11 U11 Q11 GX11 OC11
  obtain ⟨x0, x1, x2, x3, x4, x5, x6⟩ := P12.out.cells
  obtain ⟨s0, s1, s2, s3, s4, s5, s6, s7⟩ := G12.out.cells
  simp only at s1 s2 s3 s4 s5 s6 s7
  obtain ⟨z0, z1, z2, z3, z4, z5, z6⟩ := Q12.out.cells
  obtain ⟨f0, f1, f2, f3, f4, f5, f6, f7⟩ := GX12.out.cells
  simp only at f1 f2 f3 f4 f5 f6 f7
  obtain ⟨v0, v1, v2, v3, v4, v5, v6, v7, v8⟩ := OC12.out.cells
  simp only at v0 v1 v2 v3 v4 v5 v6 v7 v8
  have v9 := blk_lt OC12.out
  (try unfold pgV)
  (try simp only)
  go_upto_region 8 with fail
  clear x0 x1 x2 x3 x4 x5 x6 s0 s1 s2 s3 s4 s5 s6 s7 z0 z1 z2 z3 z4 z5 z6 f0 f1 f2 f3 f4 f5 f6 f7 v0 v1 v2 v3 v4 v5 v6 v7 v8 v9
  have BN := Lib.hid (alloc_below w12 (.cells #[.int .u8 ra, .int .u8 rb, .int .u32 rc, .int .u64 rd, .int .u32 re, .slice A12 nr cp12] 26))
  have R13 := Lib.hid (PgBox.new w12 ra rb rc rd re (.slice A12 nr cp12))
  generalize w12.alloc (.cells #[.int .u8 ra, .int .u8 rb, .int .u32 rc, .int .u64 rd, .int .u32 re, .slice A12 nr cp12] 26) = w13 at *
  have hb := BN.out
  clear BN
  have B13 := Lib.hid (below_then B12.out hb)
  have T13 := Lib.hid (T12.out.below hb)
  have P13 := Lib.hid (P12.out.below hb)
  have G13 := Lib.hid (G12.out.below hb)
  have U13 := Lib.hid (U12.out.below hb)
  have Q13 := Lib.hid (Q12.out.below hb)
  have GX13 := Lib.hid (GX12.out.below hb)
  have OC13 := Lib.hid (OC12.out.below hb)
  have S13 := Lib.hid (S12.out.below hb)
  clear hb B12 T12 P12 G12 U12 Q12 GX12 OC12 S12
  clear OC13
  obtain ⟨x0, x1, x2, x3, x4, x5, x6⟩ := P13.out.cells
  obtain ⟨s0, s1, s2, s3, s4, s5, s6, s7⟩ := G13.out.cells
  simp only at s1 s2 s3 s4 s5 s6 s7
  obtain ⟨z0, z1, z2, z3, z4, z5, z6⟩ := Q13.out.cells
  obtain ⟨f0, f1, f2, f3, f4, f5, f6, f7⟩ := GX13.out.cells
  simp only at f1 f2 f3 f4 f5 f6 f7
  obtain ⟨t0, t1, t2, t3, t4, t5, t6⟩ := R13.out.cells
  have PI := Lib.hid (PgsIn.two w13 ⟨ra, rb, rc, rd, re, rowsR⟩ ⟨pa, pb, pc, pd, pe, rowsP⟩ (.slice A12 nr cp12) (.slice A1 np cp1) S13.out T13.out)
  simp only at PI
  have hb2 := alloc_below w13 (.cells #[.int .u8 ra, .int .u8 rb, .int .u32 rc, .int .u64 rd, .int .u32 re, .slice A12 nr cp12, .int .u8 pa, .int .u8 pb, .int .u32 pc, .int .u64 pd, .int .u32 pe, .slice A1 np cp1] 26)
  go_wp2_with fail
  refine (CI.out _ _ _ _ PI.out).mono ?_
  rintro e w14 ⟨u, rfl, hU, hb1⟩
  have hb := below_then hb2 hb1
  have UU14 := Lib.hid hU
  obtain ⟨UA, ucp, hu, _, _, hu2⟩ := hU
  simp only [List.length_singleton] at hu
  subst hu
  clear hb1 hb2 PI hu2
  clear x0 x1 x2 x3 x4 x5 x6 s0 s1 s2 s3 s4 s5 s6 s7 z0 z1 z2 z3 z4 z5 z6 f0 f1 f2 f3 f4 f5 f6 f7 t0 t1 t2 t3 t4 t5 t6
  have B14 := Lib.hid (below_then B13.out hb)
  have T14 := Lib.hid (T13.out.below hb)
  have P14 := Lib.hid (P13.out.below hb)
  have G14 := Lib.hid (G13.out.below hb)
  have U14 := Lib.hid (U13.out.below hb)
  have Q14 := Lib.hid (Q13.out.below hb)
  have GX14 := Lib.hid (GX13.out.below hb)
  have S14 := Lib.hid (S13.out.below hb)
  have R14 := Lib.hid (R13.out.below hb)
  clear hb B13 T13 P13 G13 U13 Q13 GX13 S13 R13
  obtain ⟨x0, x1, x2, x3, x4, x5, x6⟩ := P14.out.cells
  obtain ⟨s0, s1, s2, s3, s4, s5, s6, s7⟩ := G14.out.cells
  simp only at s1 s2 s3 s4 s5 s6 s7
  obtain ⟨z0, z1, z2, z3, z4, z5, z6⟩ := Q14.out.cells
  obtain ⟨f0, f1, f2, f3, f4, f5, f6, f7⟩ := GX14.out.cells
  simp only at f1 f2 f3 f4 f5 f6 f7
  obtain ⟨t0, t1, t2, t3, t4, t5, t6⟩ := R14.out.cells
  go_wp2_with fail
  clear x0 x1 x2 x3 x4 x5 x6 s0 s1 s2 s3 s4 s5 s6 s7 z0 z1 z2 z3 z4 z5 z6 f0 f1 f2 f3 f4 f5 f6 f7 t0 t1 t2 t3 t4 t5 t6
  refine (CD.out _ _ T14.out).mono ?_
  rintro e w15 ⟨rfl, hb⟩
  have B15 := Lib.hid (below_then B14.out hb)
  have T15 := Lib.hid (T14.out.below hb)
  have P15 := Lib.hid (P14.out.below hb)
  have G15 := Lib.hid (G14.out.below hb)
  have U15 := Lib.hid (U14.out.below hb)
  have Q15 := Lib.hid (Q14.out.below hb)
  have GX15 := Lib.hid (GX14.out.below hb)
  have S15 := Lib.hid (S14.out.below hb)
  have R15 := Lib.hid (R14.out.below hb)
  have UU15 := Lib.hid (UU14.out.below hb)
  clear hb B14 T14 P14 G14 U14 Q14 GX14 S14 R14 UU14
  go_upto_region 10 with fail
  generalize hwz : w15.alloc _ = wz
  have hb : Below w15.heap.size w15 wz := by rw [← hwz]; exact alloc_below _ _
  clear hwz
  generalize wz = w16 at *
  have B16 := Lib.hid (below_then B15.out hb)
  have T16 := Lib.hid (T15.out.below hb)
  have P16 := Lib.hid (P15.out.below hb)
  have G16 := Lib.hid (G15.out.below hb)
  have U16 := Lib.hid (U15.out.below hb)
  have Q16 := Lib.hid (Q15.out.below hb)
  have GX16 := Lib.hid (GX15.out.below hb)
  have S16 := Lib.hid (S15.out.below hb)
  have R16 := Lib.hid (R15.out.below hb)
  have UU16 := Lib.hid (UU15.out.below hb)
  clear hb B15 T15 P15 G15 U15 Q15 GX15 S15 R15 UU15
  obtain ⟨UA2, ucp2, hv2, _, _, hu2⟩ := UU16.out
  obtain ⟨ub, uo, hA2, hub, hcell⟩ := hu2 (by simp)
  have hUU : UA = some ⟨ub, uo, none⟩ := by injection hv2 with e1; exact e1.trans hA2
  subst hUU
  have u2 : w16.cell? ⟨ub, uo + 2, none⟩ = some (.int .u64 4) := hcell 0 (by simp) 2 _ rfl
  clear hv2 hA2 hu2 hcell
  have EQ : ∀ W, (binOp .eql 52 (.agg #[.int .u64 7, .int .u8 1, .int .u64 0, .int .u32 9, .int .u32 9, .int .u32 9, .int .u16 0]) (.agg #[.int .u64 7, .int .u8 1, .int .u64 0, .int .u32 9, .int .u32 9, .int .u32 9, .int .u16 0])).run Tryz.prog W = .ok (.bool true) W := fun W => eqSegSelf ⟨7, 1, 0, 9, 9, 9, 0⟩ W
  have PJ := Lib.hid (PgsIn.one w16 ⟨qa, qb, qc, qd, qe, rowsQ⟩ (.slice A6 nq cp6) U16.out)
  simp only at PJ
  have hb2 := alloc_below w16 (.cells #[.int .u8 qa, .int .u8 qb, .int .u32 qc, .int .u64 qd, .int .u32 qe, .slice A6 nq cp6] 26)
  obtain ⟨x0, x1, x2, x3, x4, x5, x6⟩ := P16.out.cells
  obtain ⟨s0, s1, s2, s3, s4, s5, s6, s7⟩ := G16.out.cells
  simp only at s1 s2 s3 s4 s5 s6 s7
  obtain ⟨z0, z1, z2, z3, z4, z5, z6⟩ := Q16.out.cells
  obtain ⟨f0, f1, f2, f3, f4, f5, f6, f7⟩ := GX16.out.cells
  simp only at f1 f2 f3 f4 f5 f6 f7
  obtain ⟨t0, t1, t2, t3, t4, t5, t6⟩ := R16.out.cells
  go_wp2_with fail
  refine (CJ.out _ _ _ PJ.out).mono ?_
  rintro e w17 ⟨u, rfl, hU, hb1⟩
  obtain ⟨VA, vcp, hv, _, _, _⟩ := hU
  simp only [List.length_singleton] at hv
  subst hv
  have BF := Lib.hid (below_then (below_then B16.out hb2) hb1)
  clear hb1 hb2 PJ
  go_wp2_with fail
  refine (CO.out _).mono ?_
  rintro e w18 ⟨rfl, rfl⟩
  go_wp2_with fail
  go_ret
  exact ⟨rfl, by rw [HW0.out]; exact BF.out⟩
end Go.Proofs.YtienlhnbmobinaaGreat
end

section
/- heavy and same of chapter 22 -/
namespace Go.Proofs.YtienlhnbmobinaaGreat
open Go.RowKit
set_option linter.unusedVariables false
set_option linter.unusedSimpArgs false
/-- More of a page than a statement looks at. -/
def heavy22 (rows : List (List UInt8)) : Bool := decide (60 < rows.length) || decide (4096 < weightB (rows.take 100))
theorem heavy22_no {rows : List (List UInt8)} (h : heavy22 rows = false) : rows.length ≤ 60 ∧ weightB rows ≤ 4096 := by
  unfold heavy22 at h
  rw [Bool.or_eq_false_iff, decide_eq_false_iff_not, decide_eq_false_iff_not] at h
  obtain ⟨h1, h2⟩ := h
  have h3 : rows.take 100 = rows := List.take_of_length_le (by omega)
  rw [h3] at h2
  omega
theorem weight_take (rows : List (List UInt8)) (k : Nat) (h : k < rows.length) : weightB (rows.take (k + 1)) = weightB (rows.take k) + (4 + rows[k].length) := by
  rw [List.take_succ_eq_append_getElem h]
  unfold weightB
  rw [List.map_append, List.sum_append]
  rfl
set_option maxHeartbeats 4000000 in
set_option maxRecDepth 100000 in
theorem heavy22_any (p : Pg) (sv v : Value) (w : World) (hv : PgsIn w v [(p, sv)]) (hz : ∀ r ∈ p.rows, r.length ≤ 140737488351232) :
    Calls Tryz.prog 4 #[v] w fun e w' => e = .returned (.bool (heavy22 p.rows)) ∧ Below w.heap.size w w' := by
  obtain ⟨g, hv1, hv2, hv3⟩ := hv
  simp only [List.length_cons, List.length_nil] at hv1
  have h9 := hv3 0 (by simp)
  simp only [List.getElem_cons_zero] at h9
  obtain ⟨hT, _, _, _, _, _, hc5⟩ := h9
  have HT := Lib.hid hT
  obtain ⟨n, hn⟩ : ∃ n, n = p.rows.length := ⟨_, rfl⟩
  obtain ⟨A, cp, hsv, h2, h3, h4, h5⟩ := hT
  rw [← hn] at hsv h2
  subst hsv
  unfold maxLen at h3
  have HN := Lib.hid hn
  have HZ := Lib.hid hz
  have C5 := Lib.hid hc5
  subst hv1
  obtain ⟨kind, level, id, lsn, next, rows⟩ := p
  simp only at HT HN HZ ⊢
  clear h4 h5 hn hz hv3 hc5
  go_enter Tryz.func4, Tryz.ntmps4
  go_wp2_with fail
  go_loopw [3, 4] (fun s3 s4 wr => ∃ i x : Nat, s4 = .int .i64 i ∧ s3 = .int .i64 x ∧ i ≤ 1 ∧ Hid ((i = 0 ∧ x = 0) ∨ (i = 1 ∧ x = weightB (rows.take 100) ∧ n ≤ 60)) ∧ Hid (Below w.heap.size w wr)) (fun _ v _ => 1 - (intOf v).toNat)
  case atStart => exact ⟨0, 0, rfl, rfl, by omega, Lib.hid (.inl ⟨rfl, rfl⟩), Lib.hid (Below.refl _ _)⟩
  case round =>
    obtain ⟨i, x, rfl, rfl, hi, HC, HB⟩ := hrel
    by_cases hi1 : i < 1
    case neg =>
      have hci : ¬ (i : Int) < 1 := by omega
      have hx : x = weightB (rows.take 100) ∧ n ≤ 60 := by rcases HC.out with h | h; omega; exact h.2
      obtain ⟨bb, hbb⟩ : ∃ b, decide (4096 < x) = b := ⟨_, rfl⟩
      have hbi : decide ((4096 : Int) < (x : Int)) = bb := by rw [← hbb]; exact decide_eq_decide.2 (by omega)
      have HR : Hid (heavy22 rows = bb) := by
        show _ = _
        unfold heavy22
        rw [decide_eq_false (by rw [← HN.out]; omega), ← hbb, hx.1]
        rfl
      clear hx HC
      go_wp2_with fail
      go_ret
      exact ⟨by rw [HR.out]; rfl, HB.out⟩
    have hx : x = 0 := by rcases HC.out with h | h <;> omega
    subst hx
    have hci : (i : Int) < 1 := by omega
    have hi0 : (0 : Int) ≤ (i : Int) := by omega
    have HI0 : Hid (i = 0) := by show _ = _; omega
    have c5 : ∀ W, Below w.heap.size w W → W.cell? ⟨g, i * 6 + 5, none⟩ = some (.slice A n cp) := fun W hW => by
      rw [HI0.out]
      exact (hW.cell (p := ⟨g, 0 * 6 + 5, none⟩) hv2).trans C5.out
    have CC := Lib.hid c5
    clear c5 HC
    have d5 := CC.out _ HB.out
    generalize wr = w0 at *
    go_wp2_with fail
    go_loopw [3, 5] (fun s3 s5 wr => ∃ k y : Nat, s5 = .int .i64 k ∧ s3 = .int .i64 y ∧ k ≤ n ∧ k ≤ 100 ∧ Hid (y = weightB (rows.take k)) ∧ Hid (y ≤ k * 140737488351236) ∧ Hid (Below w.heap.size w wr)) (fun _ v _ => n - (intOf v).toNat)
    case atStart => exact ⟨0, 0, rfl, rfl, Nat.zero_le _, by omega, Lib.hid (by simp [weightB]), Lib.hid (by omega), HB⟩
    case round =>
      obtain ⟨k, y, rfl, rfl, hk, hk2, HY, HS, HB2⟩ := hrel
      clear d5
      have d5 := CC.out _ HB2.out
      by_cases hc : k < n
      · have hck : (k : Int) < (n : Int) := by omega
        have q0 : (0 : Int) ≤ (k : Int) := by omega
        by_cases hc2 : k < 100
        · have hck2 : (k : Int) < 100 := by omega
          have hil : k < rows.length := by rw [← HN.out]; exact hc
          obtain ⟨_, _, hvv, _, _, _, hcc⟩ := HT.out.below HB2.out
          obtain ⟨b, o, hA, hbl, hcell⟩ := hcc (by omega)
          have hAA : A = some ⟨b, o, none⟩ := by injection hvv with e1 _ _; exact e1.trans hA
          subst hAA
          have c0 := hcell k hil
          have hsm := HS.out
          have hle := HZ.out rows[k] (List.getElem_mem hil)
          have LT := Lib.hid (weight_take rows k hil)
          clear hcell hcc hvv hA
          generalize rows[k] = r at *
          have hrz : (⟨r.toArray⟩ : ByteArray).size = r.length := rfl
          have hb1 : y + 4 + r.length ≤ (k + 1) * 140737488351236 := by omega
          go_wp2_with fail
          exact ⟨⟨k + 1, y + 4 + r.length, by go_num, by go_num, by omega, by omega, Lib.hid (by rw [LT.out, HY.out]; omega), Lib.hid hb1, HB2⟩, by simp [intOf]; omega⟩
        · have hk100 : k = 100 := by omega
          have hck2 : ¬ (k : Int) < 100 := by omega
          have hn60 : (60 : Int) < (n : Int) := by omega
          have HR : Hid (heavy22 rows = true) := by show _ = _; unfold heavy22; rw [decide_eq_true (by rw [← HN.out]; omega)]; rfl
          clear hk100
          go_wp2_with fail
          go_ret
          exact ⟨by rw [HR.out]; rfl, HB2.out⟩
      · have hck : ¬ (k : Int) < (n : Int) := by omega
        by_cases h60 : 60 < n
        · have hn60 : (60 : Int) < (n : Int) := by omega
          have HR : Hid (heavy22 rows = true) := by show _ = _; unfold heavy22; rw [decide_eq_true (by rw [← HN.out]; omega)]; rfl
          go_wp2_with fail
          go_ret
          exact ⟨by rw [HR.out]; rfl, HB2.out⟩
        · have hn60 : ¬ (60 : Int) < (n : Int) := by omega
          have HY2 : Hid (y = weightB (rows.take 100)) := by
            show _ = _
            rw [HY.out, List.take_of_length_le (show rows.length ≤ k by rw [← HN.out]; omega), List.take_of_length_le (show rows.length ≤ 100 by rw [← HN.out]; omega)]
          go_wp2_with fail
          exact ⟨⟨1, y, by rw [HI0.out]; go_num, rfl, by omega, Lib.hid (.inr ⟨rfl, HY2.out, by omega⟩), HB2⟩, by simp [intOf]; omega⟩
end Go.Proofs.YtienlhnbmobinaaGreat
end
