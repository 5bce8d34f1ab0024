/- chapter 08: Merge -/
import Derived.Test.YtjcfnfpilladfaaRows
import Derived.Test.YtjcfnfpilladfaaNodeWith0
import Derived.Deep.RegionLaw
import Derived.WalkKit
import Derived.WalkLawsBesides
import Derived.WalkSpells
import Derived.LoopTactic
import Derived.WalkMore
import Derived.LoopN
import Derived.Laws.BitsAllLaws
import Derived.Laws.IdiomStrings
import Derived.BigQuiet
import Derived.Deep.QuietTactic
import Derived.Deep.DeepCutAuto
import Derived.Deep.RegionHeld3
import Derived.Deep.DrawnRows
import Derived.Lib.Hide
import Derived.Outline
import Derived.Deep.DeepMust
import Derived.Handy
namespace Go.Proofs.Ytjcfnfpilladfaa
open Go.RowKit
set_option linter.unusedVariables false
set_option linter.unusedSimpArgs false

set_option maxHeartbeats 4000000 in
set_option maxRecDepth 100000 in
theorem nodeMerge_any (p q : Pg) (sv tv : Value) (w : World) (hp : p.wf) (hq : q.wf) (ht : TextsAt w sv p.rows) (hu : TextsAt w tv q.rows) (hb : weightB p.rows ≤ 400000) (hc : weightB q.rows ≤ 400000) :
    Calls Try.prog 37 #[pgV p sv, pgV q tv] w (PgPost w (mergeB p q)) := by
  have CK := Lib.hid fun W (h : TextsAt W sv p.rows) => nodeCheck_any p sv W hp h (by omega)
  have CK2 := Lib.hid fun W (h : TextsAt W tv q.rows) => nodeCheck_any q tv W hq h (by omega)
  have hwf : Pg.wf ⟨p.kind, p.level, p.id, p.lsn, q.next, p.rows ++ q.rows⟩ := by obtain ⟨a1, a2, a3, a4, a5⟩ := hp; obtain ⟨b1, b2, b3, b4, b5⟩ := hq; exact ⟨a1, a2, a3, a4, b5⟩
  have hww : weightB (p.rows ++ q.rows) ≤ 1000000 := by rw [weightB_append]; omega
  have CS := Lib.hid fun sv' W (h : TextsAt W sv' (p.rows ++ q.rows)) => nodeKeys_any ⟨p.kind, p.level, p.id, p.lsn, q.next, p.rows ++ q.rows⟩ sv' W hwf h hww
  have CM := Lib.hid fun sv' W (h : TextsAt W sv' (p.rows ++ q.rows)) => pageMay_any ⟨p.kind, p.level, p.id, p.lsn, q.next, p.rows ++ q.rows⟩ sv' W hwf h hww
  have HT := Lib.hid ht
  have HU := Lib.hid hu
  have hnb : p.rows.length ≤ 400000 := by have := weightB_length p.rows; omega
  have hmb : q.rows.length ≤ 400000 := by have := weightB_length q.rows; omega
  obtain ⟨i0, hif, hz0, hz1, hz2⟩ := info_parts Try.infoStr
  have HI := Lib.hid hif
  have HI0 := Lib.hid hz0
  have HI1 := Lib.hid hz1
  have HI2 := Lib.hid hz2
  clear hif hz0 hz1 hz2
  have CC := Lib.hid fun W (h : TextsAt W sv p.rows) => cloneTexts_any sv p.rows W h (by omega)
  obtain ⟨n, hn⟩ : ∃ n, n = p.rows.length := ⟨_, rfl⟩
  obtain ⟨A, cp, hsv, h2, h3, h4, h5⟩ := ht
  rw [← hn] at hsv h2 hnb
  subst hsv
  obtain ⟨m, hm⟩ : ∃ m, m = q.rows.length := ⟨_, rfl⟩
  obtain ⟨B, cq, htv, k2, k3, k4, k5⟩ := hu
  rw [← hm] at htv k2 hmb
  subst htv
  have R1 : Hid (checkB p = false ∨ checkB q = false → mergeB p q = (Pg.zero, 7)) := fun h => by unfold mergeB; rw [if_neg (by rcases h with h | h <;> simp [h])]
  have R2 : Hid (checkB p = true → checkB q = true → ¬ (p.kind = q.kind ∧ p.level = q.level) → mergeB p q = (Pg.zero, 2)) := fun h h1 h2 => by unfold mergeB; rw [if_pos (by simp [h, h1]), if_neg h2]
  have R3 : Hid (checkB p = true → checkB q = true → (p.kind = q.kind ∧ p.level = q.level) → keysB ⟨p.kind, p.level, p.id, p.lsn, q.next, p.rows ++ q.rows⟩ = none → mergeB p q = (Pg.zero, 7)) := fun h h1 h2 h3 => by unfold mergeB; rw [if_pos (by simp [h, h1]), if_pos h2, if_neg (by rw [h3]; simp)]
  have R4 : Hid (checkB p = true → checkB q = true → (p.kind = q.kind ∧ p.level = q.level) → ∀ ks, keysB ⟨p.kind, p.level, p.id, p.lsn, q.next, p.rows ++ q.rows⟩ = some ks → Pg.may ⟨p.kind, p.level, p.id, p.lsn, q.next, p.rows ++ q.rows⟩ = false → mergeB p q = (Pg.zero, 4)) := fun h h1 h2 ks h3 h4 => by unfold mergeB; rw [if_pos (by simp [h, h1]), if_pos h2, if_pos (by rw [h3]; rfl), if_neg (by rw [h4]; simp)]
  have R5 : Hid (checkB p = true → checkB q = true → (p.kind = q.kind ∧ p.level = q.level) → ∀ ks, keysB ⟨p.kind, p.level, p.id, p.lsn, q.next, p.rows ++ q.rows⟩ = some ks → Pg.may ⟨p.kind, p.level, p.id, p.lsn, q.next, p.rows ++ q.rows⟩ = true → mergeB p q = (⟨p.kind, p.level, p.id, p.lsn, q.next, p.rows ++ q.rows⟩, 0)) := fun h h1 h2 ks h3 h4 => by unfold mergeB; rw [if_pos (by simp [h, h1]), if_pos h2, if_pos (by rw [h3]; rfl), if_pos h4]
  generalize checkB p = c at *
  generalize checkB q = c2 at *
  generalize mergeB p q = R at *
  generalize keysB ⟨p.kind, p.level, p.id, p.lsn, q.next, p.rows ++ q.rows⟩ = K at *
  generalize hM : Pg.may ⟨p.kind, p.level, p.id, p.lsn, q.next, p.rows ++ q.rows⟩ = M at *
  clear hM h4 h5 k4 k5 hwf hww
  unfold pgV at *
  obtain ⟨kind, level, id, lsn, next, rows⟩ := p
  obtain ⟨kind2, level2, id2, lsn2, next2, rows2⟩ := q
  clear hp hb hq hc
  have HN := Lib.hid hn
  have HM := Lib.hid hm
  clear hn hm
  simp only at *
  unfold maxLen at h3 k3
  have P0 := Lib.hid (((PgBox.new w kind level id lsn next (.slice A n cp)).keep (.cells #[.int .u8 kind2, .int .u8 level2, .int .u32 id2, .int .u64 lsn2, .int .u32 next2, .slice B m cq] 45)).keep (.cells #[.int .u8 0, .int .u8 0, .int .u32 0, .int .u64 0, .int .u32 0, .slice none 0 0] 45))
  have P1 := Lib.hid ((PgBox.new (w.alloc (.cells #[.int .u8 kind, .int .u8 level, .int .u32 id, .int .u64 lsn, .int .u32 next, .slice A n cp] 45)) kind2 level2 id2 lsn2 next2 (.slice B m cq)).keep (.cells #[.int .u8 0, .int .u8 0, .int .u32 0, .int .u64 0, .int .u32 0, .slice none 0 0] 45))
  have P2 := Lib.hid (PgBox.new ((w.alloc (.cells #[.int .u8 kind, .int .u8 level, .int .u32 id, .int .u64 lsn, .int .u32 next, .slice A n cp] 45)).alloc (.cells #[.int .u8 kind2, .int .u8 level2, .int .u32 id2, .int .u64 lsn2, .int .u32 next2, .slice B m cq] 45)) 0 0 0 0 0 (.slice none 0 0))
  have hz1 : (w.alloc (.cells #[.int .u8 kind, .int .u8 level, .int .u32 id, .int .u64 lsn, .int .u32 next, .slice A n cp] 45)).heap.size = w.heap.size + 1 := by simp
  have hz2 : ((w.alloc (.cells #[.int .u8 kind, .int .u8 level, .int .u32 id, .int .u64 lsn, .int .u32 next, .slice A n cp] 45)).alloc (.cells #[.int .u8 kind2, .int .u8 level2, .int .u32 id2, .int .u64 lsn2, .int .u32 next2, .slice B m cq] 45)).heap.size = w.heap.size + 1 + 1 := by simp
  rw [hz1] at P1
  rw [hz2] at P2
  clear hz1 hz2
  have B0 := Lib.hid (((alloc_below w (.cells #[.int .u8 kind, .int .u8 level, .int .u32 id, .int .u64 lsn, .int .u32 next, .slice A n cp] 45)).alloc (by simp) (.cells #[.int .u8 kind2, .int .u8 level2, .int .u32 id2, .int .u64 lsn2, .int .u32 next2, .slice B m cq] 45)).alloc (by simp; omega) (.cells #[.int .u8 0, .int .u8 0, .int .u32 0, .int .u64 0, .int .u32 0, .slice none 0 0] 45))
  go_enter Try.func37, Try.ntmps37
  go_wp2_with fail
  generalize ((w.alloc (.cells #[.int .u8 kind, .int .u8 level, .int .u32 id, .int .u64 lsn, .int .u32 next, .slice A n cp] 45)).alloc (.cells #[.int .u8 kind2, .int .u8 level2, .int .u32 id2, .int .u64 lsn2, .int .u32 next2, .slice B m cq] 45)).alloc (.cells #[.int .u8 0, .int .u8 0, .int .u32 0, .int .u64 0, .int .u32 0, .slice none 0 0] 45) = w0 at *
  have T0 := Lib.hid (HT.out.below B0.out)
  have U0 := Lib.hid (HU.out.below B0.out)
  refine (CK.out _ T0.out).mono ?_
  rintro e w1 ⟨rfl, hb1⟩
  have B1 := Lib.hid (below_then B0.out hb1)
  have T1 := Lib.hid (T0.out.below hb1)
  have U1 := Lib.hid (U0.out.below hb1)
  have Q0 := Lib.hid (P0.out.below hb1)
  have Q1 := Lib.hid (P1.out.below hb1)
  have Q2 := Lib.hid (P2.out.below hb1)
  clear hb1 P0 P1 P2 T0 U0
  cases c with
  | false =>
    have HR := Lib.hid (R1.out (.inl rfl))
    unfold chkN
    obtain ⟨y0, y1, y2, y3, y4, y5, y6⟩ := Q2.out.cells
    obtain ⟨f0, f1, f2, f3, f4, f5⟩ := Q2.out.fr
    have XB := Lib.hid (Q2.out.put 0 0 0 0 0 (.slice none 0 0))
    have XK := Lib.hid (OthersKept.below B1.out (setPg_kept w1 (w.heap.size + 1 + 1) 0 0 0 0 0 (.slice none 0 0)) (fun k hk e => by omega))
    go_wp2_with fail
    refine bodyPost_ret (v := .tuple #[.agg #[.int .u8 (0 : Nat), .int .u8 (0 : Nat), .int .u32 (0 : Nat), .int .u64 (0 : Nat), .int .u32 (0 : Nat), .slice none 0 0], .int .i64 7]) (results_pg (p := 4) (u := 5) (by kernel_rfl) _ _ rfl XB.out) rfl ?_
    exact PgPost.no HR.out XK.out
  | true =>
    unfold chkN
    obtain ⟨x0, x1, x2, x3, x4, x5, x6⟩ := Q1.out.cells
    go_wp2_with fail
    refine (CK2.out _ U1.out).mono ?_
    rintro e w2 ⟨rfl, hb2⟩
    have B2 := Lib.hid (below_then B1.out hb2)
    have T2 := Lib.hid (T1.out.below hb2)
    have U2 := Lib.hid (U1.out.below hb2)
    have P0 := Lib.hid (Q0.out.below hb2)
    have P1 := Lib.hid (Q1.out.below hb2)
    have P2 := Lib.hid (Q2.out.below hb2)
    clear hb2 Q0 Q1 Q2 T1 U1 x0 x1 x2 x3 x4 x5 x6
    cases c2 with
    | false =>
      have HR := Lib.hid (R1.out (.inr rfl))
      unfold chkN
      obtain ⟨y0, y1, y2, y3, y4, y5, y6⟩ := P2.out.cells
      obtain ⟨f0, f1, f2, f3, f4, f5⟩ := P2.out.fr
      have XB := Lib.hid (P2.out.put 0 0 0 0 0 (.slice none 0 0))
      have XK := Lib.hid (OthersKept.below B2.out (setPg_kept w2 (w.heap.size + 1 + 1) 0 0 0 0 0 (.slice none 0 0)) (fun k hk e => by omega))
      go_wp2_with fail
      refine bodyPost_ret (v := .tuple #[.agg #[.int .u8 (0 : Nat), .int .u8 (0 : Nat), .int .u32 (0 : Nat), .int .u64 (0 : Nat), .int .u32 (0 : Nat), .slice none 0 0], .int .i64 7]) (results_pg (p := 4) (u := 5) (by kernel_rfl) _ _ rfl XB.out) rfl ?_
      exact PgPost.no HR.out XK.out
    | true =>
      unfold chkN
      obtain ⟨x0, x1, x2, x3, x4, x5, x6⟩ := P0.out.cells
      obtain ⟨z0, z1, z2, z3, z4, z5, z6⟩ := P1.out.cells
      have hs2 := P2.out.lt
      by_cases hk : kind = kind2
      · by_cases hl : level = level2
        · have G3 := Lib.hid (R3.out (by first | rfl | trivial) (by first | rfl | trivial) ⟨hk, hl⟩)
          have G4 := Lib.hid (R4.out (by first | rfl | trivial) (by first | rfl | trivial) ⟨hk, hl⟩)
          have G5 := Lib.hid (R5.out (by first | rfl | trivial) (by first | rfl | trivial) ⟨hk, hl⟩)
          have a1 : ((kind : Int) != (kind2 : Int)) = false := by simp; omega
          have a2 : ((level : Int) != (level2 : Int)) = false := by simp; omega
          clear hk hl R1 R2 R3 R4 R5
          go_upto_region 5 with fail
          go_cut [41] (fun s41 w' => ∃ b3 m3 c3, Hid (w'.ownsRow w2.heap.size 9 1 (.slice b3 m3 c3) (rows ++ rows2).length (strs (rows ++ rows2))) ∧ Hid (PgBox w' w.heap.size kind level id lsn next2 (.slice b3 m3 c3)) ∧ Hid (PgBox w' (w.heap.size + 1 + 1) 0 0 0 0 0 (.slice none 0 0)) ∧ Hid (Below w.heap.size w w'))
          case first =>
            have TD := Lib.hid (T2.out.below ((Below.refl w2.heap.size w2).drew))
            have D0 := Lib.hid (P0.out.below ((Below.refl w2.heap.size w2).drew))
            have D1 := Lib.hid (P1.out.below ((Below.refl w2.heap.size w2).drew))
            have D2 := Lib.hid (P2.out.below ((Below.refl w2.heap.size w2).drew))
            go_region_law (first
              | (have tokB := ho3; refine step_append_any _ rfl (.tmp 34) (.tmp 36) 24 rfl w2.drew.heap.size 9 i0 (.string ⟨#[]⟩) 1 16 Try.underlying24 HI.out HI0.out HI1.out HI2.out rfl (by decide) v3 rows.length (strs rows) (by rfl) ho3 (.slice B m cq) m (strs rows2) (by rfl) HRU (strs_oneCell _) (by unfold maxLen; have := HN.out; omega) (by have := HN.out; omega) hb3.size ?_; intro v4 w4 ho4 hg4; obtain ⟨m3, hm3⟩ : ∃ k, k = rows.length + m := ⟨_, rfl⟩; rw [← hm3] at ho4; have HM3 := Lib.hid hm3; clear hm3; obtain ⟨b3, c3, rfl, _, _, _⟩ := own_form ho4; have O4x := Lib.hid ho4; have hs4 : w2.drew.heap.size ≤ w4.heap.size := Nat.le_trans hb3.size hg4.size; have B4 := Lib.hid (below_own (below_then B2.out (((Below.refl w2.heap.size w2).drew).trans hb3)) ho3 B2.out.size hg4); have F0 := Lib.hid (E0.out.grown hg4 (fun h => by have h9 := (ho3.lt _ h.symm).1; have h8 := hs2; simp at h9; omega)); have F1 := Lib.hid (E1.out.grown hg4 (fun h => by have h9 := (ho3.lt _ h.symm).1; have h8 := hs2; simp at h9; omega)); have F2 := Lib.hid (E2.out.grown hg4 (fun h => by have h9 := (ho3.lt _ h.symm).1; have h8 := hs2; simp at h9; omega)); obtain ⟨u0, u1, u2, u3, u4, u5, u6⟩ := F1.out.cells; obtain ⟨y0, y1, y2, y3, y4, y5, y6⟩ := F0.out.cells; obtain ⟨f0, f1, f2, f3, f4, f5⟩ := F0.out.fr; clear hg4 ho4)
              | (go_simp; go_wp2_with (go_at_call 70; refine (CC.out _ TD.out).mono ?_; rintro e w3 ⟨v3, rfl, ho3, hb3⟩; have HRU : Reads w3 (.slice B m cq) m 1 (strs rows2) := (by have h := ((U2.out.below ((Below.refl w2.heap.size w2).drew)).below hb3).reads; rw [← HM.out] at h; exact h); have E0 := Lib.hid (D0.out.below hb3); have E1 := Lib.hid (D1.out.below hb3); have E2 := Lib.hid (D2.out.below hb3); obtain ⟨t0, t1, t2, t3, t4, t5, t6⟩ := E1.out.cells; obtain ⟨s0, s1, s2, s3, s4, s5, s6⟩ := E0.out.cells)))
            all_goals
              have hlr : (rows ++ rows2).length = m3 := by rw [HM3.out, List.length_append, HM.out]
              have hst : strs (rows ++ rows2) = strs rows ++ strs rows2 := strs_append _ _
              have O3 : Hid (w4.ownsRow w2.heap.size 9 1 (.slice b3 m3 c3) (rows ++ rows2).length (strs (rows ++ rows2))) := by show World.ownsRow _ _ _ _ _ _ _; rw [hlr, hst]; exact O4x.out
              clear hlr hst O4x
              have hg0 : ∀ j, (Value.slice b3 m3 c3).ownBlock = some j → j ≠ w.heap.size := fun j hj => by have := (O3.out.lt j hj).1; omega
              have XA := Lib.hid (own_set_far (i := 4) (u := .int .u32 next2) (own_set_far (i := 5) (u := .slice b3 m3 c3) O3.out hg0) hg0)
              have XA2 := Lib.hid (own_set_far (i := 5) (u := .slice b3 m3 c3) (own_set_far (i := 4) (u := .int .u32 next2) O3.out hg0) hg0)
              have XP := Lib.hid ((F0.out.set5 (.slice b3 m3 c3)).set4 next2)
              have XP2 := Lib.hid ((F0.out.set4 next2).set5 (.slice b3 m3 c3))
              have hk1 := (one_kept w4 w.heap.size 5 (.slice b3 m3 c3)).trans (one_kept _ w.heap.size 4 (.int .u32 next2)) (fun _ _ h => h)
              have hk2 := (one_kept w4 w.heap.size 4 (.int .u32 next2)).trans (one_kept _ w.heap.size 5 (.slice b3 m3 c3)) (fun _ _ h => h)
              have XR := Lib.hid (F2.out.kept hk1 (by omega))
              have XR2 := Lib.hid (F2.out.kept hk2 (by omega))
              have XB := Lib.hid (OthersKept.below B4.out hk1 (fun k hk e => by omega))
              have XB2 := Lib.hid (OthersKept.below B4.out hk2 (fun k hk e => by omega))
              clear hk1 hk2 hg0 O3 F0 F1 F2 E0 E1 E2 D0 D1 D2 ho3 hb3
              go_wp2_with fail
              all_goals go_meet
              all_goals first
                | exact ⟨b3, m3, c3, XA, XP, XR, XB⟩
                | exact ⟨b3, m3, c3, XA2, XP2, XR2, XB2⟩
          case rest =>
            obtain ⟨b3, m3, c3, O5, P5, P7, B5⟩ := hcut
            clear x0 x1 x2 x3 x4 x5 x6 z0 z1 z2 z3 z4 z5 z6
            obtain ⟨x0, x1, x2, x3, x4, x5, x6⟩ := P5.out.cells
            go_wp2_with fail
            refine (CS.out (.slice b3 m3 c3) _ (texts_own O5.out).1).mono ?_
            rintro e w6 ⟨v6, rfl, _, hb6⟩
            have B6 := Lib.hid (below_then B5.out hb6)
            have O6 := Lib.hid (own_below O5.out hb6)
            have Q6 := Lib.hid (P5.out.below hb6)
            have Q7 := Lib.hid (P7.out.below hb6)
            clear hb6 P5 P7 O5 B5 x0 x1 x2 x3 x4 x5 x6
            cases K with
            | none =>
              have HR := Lib.hid (G3.out rfl)
              obtain ⟨y0, y1, y2, y3, y4, y5, y6⟩ := Q7.out.cells
              obtain ⟨f0, f1, f2, f3, f4, f5⟩ := Q7.out.fr
              have XB := Lib.hid (Q7.out.put 0 0 0 0 0 (.slice none 0 0))
              have XK := Lib.hid (OthersKept.below B6.out (setPg_kept w6 (w.heap.size + 1 + 1) 0 0 0 0 0 (.slice none 0 0)) (fun k hk e => by omega))
              go_wp2_with fail
              refine bodyPost_ret (v := .tuple #[.agg #[.int .u8 (0 : Nat), .int .u8 (0 : Nat), .int .u32 (0 : Nat), .int .u64 (0 : Nat), .int .u32 (0 : Nat), .slice none 0 0], .int .i64 7]) (results_pg (p := 4) (u := 5) (by kernel_rfl) _ _ rfl XB.out) rfl ?_
              exact PgPost.no HR.out XK.out
            | some ks =>
              obtain ⟨x0, x1, x2, x3, x4, x5, x6⟩ := Q6.out.cells
              go_wp2_with fail
              refine (CM.out (.slice b3 m3 c3) _ (texts_own O6.out).1).mono ?_
              rintro e w7 ⟨rfl, hb7⟩
              have B7 := Lib.hid (below_then B6.out hb7)
              have O7 := Lib.hid (own_below O6.out hb7)
              have Q8 := Lib.hid (Q6.out.below hb7)
              have Q9 := Lib.hid (Q7.out.below hb7)
              clear hb7 Q6 Q7 O6 B6 x0 x1 x2 x3 x4 x5 x6
              cases M with
              | false =>
                have HR := Lib.hid (G4.out ks rfl rfl)
                obtain ⟨y0, y1, y2, y3, y4, y5, y6⟩ := Q9.out.cells
                obtain ⟨f0, f1, f2, f3, f4, f5⟩ := Q9.out.fr
                have XB := Lib.hid (Q9.out.put 0 0 0 0 0 (.slice none 0 0))
                have XK := Lib.hid (OthersKept.below B7.out (setPg_kept w7 (w.heap.size + 1 + 1) 0 0 0 0 0 (.slice none 0 0)) (fun k hk e => by omega))
                go_wp2_with fail
                refine bodyPost_ret (v := .tuple #[.agg #[.int .u8 (0 : Nat), .int .u8 (0 : Nat), .int .u32 (0 : Nat), .int .u64 (0 : Nat), .int .u32 (0 : Nat), .slice none 0 0], .int .i64 4]) (results_pg (p := 4) (u := 5) (by kernel_rfl) _ _ rfl XB.out) rfl ?_
                exact PgPost.no HR.out XK.out
              | true =>
                have HR := Lib.hid (G5.out ks rfl rfl)
                obtain ⟨x0, x1, x2, x3, x4, x5, x6⟩ := Q8.out.cells
                obtain ⟨y0, y1, y2, y3, y4, y5, y6⟩ := Q9.out.cells
                obtain ⟨f0, f1, f2, f3, f4, f5⟩ := Q9.out.fr
                have XB := Lib.hid (Q9.out.put kind level id lsn next2 (.slice b3 m3 c3))
                have hk6 := setPg_kept w7 (w.heap.size + 1 + 1) kind level id lsn next2 (.slice b3 m3 c3)
                have XK := Lib.hid (OthersKept.below B7.out hk6 (fun k hk e => by omega))
                have XO := Lib.hid (texts_own (hk6.owns O7.out (fun j hj e => by have := (O7.out.lt j hj).1; omega))).1
                clear hk6
                go_wp2_with fail
                refine bodyPost_ret (v := .tuple #[.agg #[.int .u8 kind, .int .u8 level, .int .u32 id, .int .u64 lsn, .int .u32 next2, .slice b3 m3 c3], .int .i64 0]) (results_pg (p := 4) (u := 5) (by kernel_rfl) _ _ rfl XB.out) rfl ?_
                exact ⟨.slice b3 m3 c3, by have h := HR.out; subst h; rfl, by have h := HR.out; subst h; exact XO.out, XK.out⟩
        · have HR := Lib.hid (R2.out (by first | rfl | trivial) (by first | rfl | trivial) (fun h => hl h.2))
          have a1 : ((kind : Int) != (kind2 : Int)) = false := by simp; omega
          have a2 : ((level : Int) != (level2 : Int)) = true := by simp; omega
          clear hk hl
          obtain ⟨y0, y1, y2, y3, y4, y5, y6⟩ := P2.out.cells
          obtain ⟨f0, f1, f2, f3, f4, f5⟩ := P2.out.fr
          have XB := Lib.hid (P2.out.put 0 0 0 0 0 (.slice none 0 0))
          have XK := Lib.hid (OthersKept.below B2.out (setPg_kept w2 (w.heap.size + 1 + 1) 0 0 0 0 0 (.slice none 0 0)) (fun k hk e => by omega))
          go_wp2_with fail
          refine bodyPost_ret (v := .tuple #[.agg #[.int .u8 (0 : Nat), .int .u8 (0 : Nat), .int .u32 (0 : Nat), .int .u64 (0 : Nat), .int .u32 (0 : Nat), .slice none 0 0], .int .i64 2]) (results_pg (p := 4) (u := 5) (by kernel_rfl) _ _ rfl XB.out) rfl ?_
          exact PgPost.no HR.out XK.out
      · have HR := Lib.hid (R2.out (by first | rfl | trivial) (by first | rfl | trivial) (fun h => hk h.1))
        have a1 : ((kind : Int) != (kind2 : Int)) = true := by simp; omega
        clear hk
        obtain ⟨y0, y1, y2, y3, y4, y5, y6⟩ := P2.out.cells
        obtain ⟨f0, f1, f2, f3, f4, f5⟩ := P2.out.fr
        have XB := Lib.hid (P2.out.put 0 0 0 0 0 (.slice none 0 0))
        have XK := Lib.hid (OthersKept.below B2.out (setPg_kept w2 (w.heap.size + 1 + 1) 0 0 0 0 0 (.slice none 0 0)) (fun k hk e => by omega))
        go_wp2_with fail
        refine bodyPost_ret (v := .tuple #[.agg #[.int .u8 (0 : Nat), .int .u8 (0 : Nat), .int .u32 (0 : Nat), .int .u64 (0 : Nat), .int .u32 (0 : Nat), .slice none 0 0], .int .i64 2]) (results_pg (p := 4) (u := 5) (by kernel_rfl) _ _ rfl XB.out) rfl ?_
        exact PgPost.no HR.out XK.out

end Go.Proofs.Ytjcfnfpilladfaa
