/- chapter 08: Without, Fits -/
import Derived.Test.YtjcfnfpilladfaaRows
import Derived.Test.YtjcfnfpilladfaaNodeWith
import Derived.WalkKit
import Derived.WalkLawsBesides
import Derived.WalkSpells
import Derived.LoopTactic
import Derived.WalkMore
import Derived.LoopN
import Derived.Laws.BitsAllLaws
import Derived.Laws.IdiomStrings
import Derived.BigQuiet
import Derived.Deep.QuietTactic
import Derived.Deep.DeepCutAuto
import Derived.Deep.RegionHeld3
import Derived.Deep.DrawnRows
import Derived.Lib.Hide
import Derived.Outline
import Derived.Deep.DeepMust
import Derived.Handy
namespace Go.Proofs.Ytjcfnfpilladfaa
open Go.RowKit
set_option linter.unusedVariables false
set_option linter.unusedSimpArgs false

theorem woown {w : World} {base n m nk k : Nat} {v : Value} {L : List Value} {rows : List (List UInt8)} (h : w.ownsRow base 9 1 v m (([] ++ strs (rows.take k)) ++ L)) (hm : m = 0 + k + nk) (hnk : nk = n - (k + 1)) (hL : L = strs (rows.drop (k + 1))) (hn : n = rows.length) (hk : k < n) :
    w.ownsRow base 9 1 v (rows.take k ++ rows.drop (k + 1)).length (strs (rows.take k ++ rows.drop (k + 1))) := by
  subst hL
  have e1 : ([] ++ strs (rows.take k)) ++ strs (rows.drop (k + 1)) = strs (rows.take k ++ rows.drop (k + 1)) := by simp [strs]
  have e2 : (rows.take k ++ rows.drop (k + 1)).length = m := by simp; omega
  rw [e1] at h
  rw [e2]
  exact h
theorem reads_none (w : World) (a : Addr) (n c : Nat) (h : n = 0) : Reads w (.slice (some a) n c) n 1 [] := by
  subst h
  exact .inr ⟨a, c, rfl, rfl, fun j u hu => by cases hu⟩
set_option maxHeartbeats 4000000 in
set_option maxRecDepth 100000 in
theorem refWithout_any (p : Pg) (sv : Value) (i : Int) (w : World) (hp : p.wf) (ht : TextsAt w sv p.rows) (hb : weightB p.rows ≤ 1000000) (hi0 : -9223372036854775808 ≤ i) (hi1 : i ≤ 9223372036854775807) :
    Calls Try.prog 57 #[pgV p sv, .int .i64 i] w (PgPost w (withoutB p i)) := by
  have CK := Lib.hid fun W (h : TextsAt W sv p.rows) => refCheck_any p sv W hp h hb
  have HT := Lib.hid ht
  have hnb : p.rows.length ≤ 1000000 := by have := weightB_length p.rows; omega
  obtain ⟨i0, hif, hz0, hz1, hz2⟩ := info_parts Try.infoStr
  have HI := Lib.hid hif
  have HI0 := Lib.hid hz0
  have HI1 := Lib.hid hz1
  have HI2 := Lib.hid hz2
  clear hif hz0 hz1 hz2
  obtain ⟨n, hn⟩ : ∃ n, n = p.rows.length := ⟨_, rfl⟩
  obtain ⟨A, cp, hsv, h2, h3, h4, h5⟩ := ht
  rw [← hn] at hsv h2 hnb
  subst hsv
  have R1 : Hid (checkB p = false → withoutB p i = (Pg.zero, 7)) := fun h => by unfold withoutB; rw [h]; rfl
  have R2 : Hid (checkB p = true → ¬ (0 ≤ i ∧ i < n) → withoutB p i = (Pg.zero, 3)) := fun h h0 => by unfold withoutB; rw [if_pos h, if_neg (by rw [← hn]; exact h0)]
  have R3 : Hid (checkB p = true → (0 ≤ i ∧ i < n) → p.kind = 2 ∧ n = 1 → withoutB p i = (Pg.zero, 7)) := fun h h0 h1 => by unfold withoutB; rw [if_pos h, if_pos (by rw [← hn]; exact h0), if_pos (by rw [← hn]; exact h1)]
  have R4 : Hid (checkB p = true → (0 ≤ i ∧ i < n) → ¬ (p.kind = 2 ∧ n = 1) → withoutB p i = (p.with (p.rows.take i.toNat ++ p.rows.drop (i.toNat + 1)), 0)) := fun h h0 h1 => by unfold withoutB; rw [if_pos h, if_pos (by rw [← hn]; exact h0), if_neg (by rw [← hn]; exact h1)]
  generalize hc : checkB p = c at *
  generalize withoutB p i = R at *
  have H5 := Lib.hid h5
  clear hc h4 h5
  unfold pgV Pg.with at *
  obtain ⟨kind, level, id, lsn, next, rows⟩ := p
  clear hp hb
  have HN := Lib.hid hn
  clear hn
  simp only at *
  unfold maxLen at h3
  have P0 := Lib.hid ((PgBox.new w kind level id lsn next (.slice A n cp)).keep (.cells #[.int .u8 0, .int .u8 0, .int .u32 0, .int .u64 0, .int .u32 0, .slice none 0 0] 45))
  have P1 := Lib.hid (PgBox.new (w.alloc (.cells #[.int .u8 kind, .int .u8 level, .int .u32 id, .int .u64 lsn, .int .u32 next, .slice A n cp] 45)) 0 0 0 0 0 (.slice none 0 0))
  have hz1 : (w.alloc (.cells #[.int .u8 kind, .int .u8 level, .int .u32 id, .int .u64 lsn, .int .u32 next, .slice A n cp] 45)).heap.size = w.heap.size + 1 := by simp
  rw [hz1] at P1
  clear hz1
  have B0 := Lib.hid ((alloc_below w (.cells #[.int .u8 kind, .int .u8 level, .int .u32 id, .int .u64 lsn, .int .u32 next, .slice A n cp] 45)).alloc (by simp) (.cells #[.int .u8 0, .int .u8 0, .int .u32 0, .int .u64 0, .int .u32 0, .slice none 0 0] 45))
  go_enter Try.func57, Try.ntmps57
  go_wp2_with fail
  generalize (w.alloc (.cells #[.int .u8 kind, .int .u8 level, .int .u32 id, .int .u64 lsn, .int .u32 next, .slice A n cp] 45)).alloc (.cells #[.int .u8 0, .int .u8 0, .int .u32 0, .int .u64 0, .int .u32 0, .slice none 0 0] 45) = w0 at *
  have T0 := Lib.hid (HT.out.below B0.out)
  refine (CK.out _ T0.out).mono ?_
  rintro e w1 ⟨rfl, hb1⟩
  have B1 := Lib.hid (below_then B0.out hb1)
  have T1 := Lib.hid (T0.out.below hb1)
  have Q0 := Lib.hid (P0.out.below hb1)
  have Q1 := Lib.hid (P1.out.below hb1)
  obtain ⟨x0, x1, x2, x3, x4, x5, x6⟩ := Q0.out.cells
  clear hb1 P0 P1
  cases c with
  | false =>
    have HR := Lib.hid (R1.out rfl)
    unfold chkN
    obtain ⟨y0, y1, y2, y3, y4, y5, y6⟩ := Q1.out.cells
    obtain ⟨f0, f1, f2, f3, f4, f5⟩ := Q1.out.fr
    have XB := Lib.hid (Q1.out.put 0 0 0 0 0 (.slice none 0 0))
    have XK := Lib.hid (OthersKept.below B1.out (setPg_kept w1 (w.heap.size + 1) 0 0 0 0 0 (.slice none 0 0)) (fun k hk e => by omega))
    go_wp2_with fail
    refine bodyPost_ret (v := .tuple #[.agg #[.int .u8 (0 : Nat), .int .u8 (0 : Nat), .int .u32 (0 : Nat), .int .u64 (0 : Nat), .int .u32 (0 : Nat), .slice none 0 0], .int .i64 7]) (results_pg (p := 4) (u := 5) (by kernel_rfl) _ _ rfl XB.out) rfl ?_
    exact PgPost.no HR.out XK.out
  | true =>
    unfold chkN
    by_cases ha : i < 0
    · have HR := Lib.hid (R2.out rfl (by omega))
      obtain ⟨y0, y1, y2, y3, y4, y5, y6⟩ := Q1.out.cells
      obtain ⟨f0, f1, f2, f3, f4, f5⟩ := Q1.out.fr
      have XB := Lib.hid (Q1.out.put 0 0 0 0 0 (.slice none 0 0))
      have XK := Lib.hid (OthersKept.below B1.out (setPg_kept w1 (w.heap.size + 1) 0 0 0 0 0 (.slice none 0 0)) (fun k hk e => by omega))
      go_wp2_with fail
      refine bodyPost_ret (v := .tuple #[.agg #[.int .u8 (0 : Nat), .int .u8 (0 : Nat), .int .u32 (0 : Nat), .int .u64 (0 : Nat), .int .u32 (0 : Nat), .slice none 0 0], .int .i64 3]) (results_pg (p := 4) (u := 5) (by kernel_rfl) _ _ rfl XB.out) rfl ?_
      exact PgPost.no HR.out XK.out
    · by_cases hd : i < n
      · obtain ⟨k, rfl⟩ : ∃ k : Nat, i = k := ⟨i.toNat, by omega⟩
        have hkn : k < n := by omega
        have G3 := Lib.hid (R3.out rfl ⟨by omega, by omega⟩)
        have G4 := Lib.hid (R4.out rfl ⟨by omega, by omega⟩)
        rw [show (k : Int).toNat = k by omega] at G4
        by_cases hk2 : kind = 2 ∧ n = 1
        · obtain ⟨hk3, hn3⟩ := hk2
          have HR := Lib.hid (G3.out ⟨hk3, hn3⟩)
          have a1 : ((kind : Int) == 2) = true := by simp; omega
          subst hn3
          obtain rfl : k = 0 := by omega
          clear hk3
          obtain ⟨y0, y1, y2, y3, y4, y5, y6⟩ := Q1.out.cells
          obtain ⟨f0, f1, f2, f3, f4, f5⟩ := Q1.out.fr
          have XB := Lib.hid (Q1.out.put 0 0 0 0 0 (.slice none 0 0))
          have XK := Lib.hid (OthersKept.below B1.out (setPg_kept w1 (w.heap.size + 1) 0 0 0 0 0 (.slice none 0 0)) (fun k hk e => by omega))
          go_wp2_with fail
          refine bodyPost_ret (v := .tuple #[.agg #[.int .u8 (0 : Nat), .int .u8 (0 : Nat), .int .u32 (0 : Nat), .int .u64 (0 : Nat), .int .u32 (0 : Nat), .slice none 0 0], .int .i64 7]) (results_pg (p := 4) (u := 5) (by kernel_rfl) _ _ rfl XB.out) rfl ?_
          exact PgPost.no HR.out XK.out
        · have HR := Lib.hid (G4.out hk2)
          have hk3 : kind ≠ 2 ∨ (kind = 2 ∧ n ≠ 1) := by omega
          clear hk2 G3 G4 R1 R2 R3 R4
          rcases hk3 with hk3 | ⟨hk3, hn3⟩
          · have a1 : ((kind : Int) == 2) = false := by simp; omega
            clear hk3
            go_upto_region 7 with fail
            have TK := (T1.out.take k cp (by omega) (by omega) (Nat.le_refl _)).below ((alloc_below w1 (.cells #[] 9)).drew)
            have TA := Lib.hid TK.reads
            have hlk : (rows.take k).length = k := by have := HN.out; simp; omega
            rw [hlk] at TA
            clear TK hlk
            have hs0 := x0
            have hs1 := Q1.out.lt
            have BB1 := Lib.hid ((alloc_below w1 (.cells #[] 9)).drew)
            have BW1 := Lib.hid (below_then B1.out BB1.out)
            have Q01 := Lib.hid (Q0.out.below BB1.out)
            have Q11 := Lib.hid (Q1.out.below BB1.out)
            obtain ⟨r', hr'⟩ : ∃ x, x = k + 1 := ⟨_, rfl⟩
            have v1 : IntKind.i64.wrap ((k : Int) + 1) = (r' : Int) := by rw [show (r' : Int) = (k : Int) + 1 by omega]; exact IntWalk.i64_in _ ⟨by omega, by omega⟩
            have q2 : (0 : Int) ≤ (k : Int) := by omega
            have q3 : (k : Int) ≤ (cp : Int) := by omega
            have q4 : (0 : Int) ≤ (r' : Int) := by omega
            have q5 : (r' : Int) ≤ (n : Int) := by omega
            have q6 : (r' : Int) ≤ (cp : Int) := by omega
            have q7 : r' ≤ n := by omega
            have q8 : k ≤ cp := by omega
            obtain ⟨b0, o0, rfl, hb0, _⟩ := H5.out (by have := HN.out; omega)
            have HR' := Lib.hid hr'
            clear hr'
            have z6 := x6
            have z0 := x0
            clear x0 x1 x2 x3 x4 x5 x6
            obtain ⟨x0, x1, x2, x3, x4, x5, x6⟩ := Q01.out.cells
            go_cut [41] (fun s41 w' => ∃ b3 m3 c3, Hid (w'.ownsRow w1.heap.size 9 1 (.slice b3 m3 c3) (rows.take k ++ rows.drop (k + 1)).length (strs (rows.take k ++ rows.drop (k + 1)))) ∧ Hid (PgBox w' w.heap.size kind level id lsn next (.slice b3 m3 c3)) ∧ Hid (PgBox w' (w.heap.size + 1) 0 0 0 0 0 (.slice none 0 0)) ∧ Hid (Below w.heap.size w w'))
            case first =>
             by_cases hck : cp = r'
             · obtain rfl : cp = n := by omega
               subst hck
               have BR := Lib.hid fun W (hb : Below w1.heap.size w1 W) => reads_none W ⟨b0, o0, none⟩ 0 0 rfl
               go_region_law (first
                 | (refine step_append_any _ rfl (.tmp 35) (.tmp 40) 24 rfl w1.heap.size 9 i0 (.string ⟨#[]⟩) 1 16 Try.underlying24 HI.out HI0.out HI1.out HI2.out rfl (by decide) v2 (0 + k) ([] ++ strs (rows.take k)) (by rfl) ho2 (.slice (some ⟨b0, o0, none⟩) 0 0) 0 [] (by rfl) (BR.out _ HBB2) (fun u hu => by cases hu) (by unfold maxLen; omega) (by omega) (Nat.le_trans (by simp) hg2.size) ?_; intro v4 w4 ho4 hg4; obtain ⟨m3, hm3⟩ : ∃ m, m = 0 + k + 0 := ⟨_, rfl⟩; rw [← hm3] at ho4; have HM3 := Lib.hid hm3; clear hm3; obtain ⟨b3, c3, rfl, _, _, _⟩ := own_form ho4; have O4x := Lib.hid ho4; have hs9 : w1.heap.size ≤ w4.heap.size := Nat.le_trans (Nat.le_trans (by simp) hg2.size) hg4.size; have B3 := Lib.hid (below_own HBW2 ho2 B1.out.size hg4); have Q2 := Lib.hid (Q02.out.grown hg4 (fun h => by have := (ho2.lt _ h.symm).1; omega)); have Q3 := Lib.hid (Q12.out.grown hg4 (fun h => by have := (ho2.lt _ h.symm).1; omega)); obtain ⟨x0, x1, x2, x3, x4, x5, x6⟩ := Q2.out.cells; obtain ⟨f0, f1, f2, f3, f4, f5⟩ := Q2.out.fr; clear hg4 ho4)
                 | (refine step_append_any _ rfl (.tmp 30) (.tmp 34) 24 rfl w1.heap.size 9 i0 (.string ⟨#[]⟩) 1 16 Try.underlying24 HI.out HI0.out HI1.out HI2.out rfl (by decide) (.slice (some ⟨w1.heap.size, 0, none⟩) 0 0) 0 [] (by rfl) (own_empty1 w1) (.slice (some ⟨b0, o0, none⟩) k cp) k (strs (rows.take k)) (by rfl) TA.out (strs_oneCell _) (by unfold maxLen; omega) (by omega) (by simp) ?_; intro v2 w2 ho2 hg2; have HBW2 := below_own BW1.out (own_empty1 w1) B1.out.size hg2; have HBB2 := below_own BB1.out (own_empty1 w1) (Nat.le_refl _) hg2; have Q02 := Lib.hid ((Q01.out).grown hg2 (fun h => by simp [Value.ownBlock] at h; omega)); have Q12 := Lib.hid ((Q11.out).grown hg2 (fun h => by simp [Value.ownBlock] at h; omega)); obtain ⟨x0, x1, x2, x3, x4, x5, x6⟩ := Q02.out.cells))
               all_goals
                 have O3 : Hid (w4.ownsRow w1.heap.size 9 1 (.slice b3 m3 c3) (rows.take k ++ rows.drop (k + 1)).length (strs (rows.take k ++ rows.drop (k + 1)))) := Lib.hid (woown O4x.out HM3.out (by have := HR'.out; have := HN.out; omega) (by rw [List.drop_eq_nil_of_le (by have := HR'.out; have := HN.out; omega)]; rfl) HN.out (by omega))
                 clear O4x
                 have B4 := Lib.hid (OthersKept.below B3.out (one_kept w4 w.heap.size 5 (.slice b3 m3 c3)) (fun j hj e => by omega))
                 have O4 := Lib.hid (own_set_far (g := w.heap.size) (i := 5) (u := .slice b3 m3 c3) O3.out (fun j hj => by have := (O3.out.lt j hj).1; omega))
                 have P0 := Lib.hid (Q2.out.set5 (.slice b3 m3 c3))
                 have P1 := Lib.hid (Q3.out.kept (one_kept w4 w.heap.size 5 (.slice b3 m3 c3)) (by omega))
                 clear Q2 Q3 O3
                 go_wp2_with fail
                 all_goals go_meet
                 all_goals exact ⟨b3, m3, c3, O4, P0, P1, B4⟩
             · have BR := Lib.hid fun W hb => (show Reads w1 (.slice (some ⟨b0, o0 + r', none⟩) (n - r') (cp - r')) (n - r') 1 (strs (rows.drop r')) by have h := T1.out.back r' (cp - r') q7; rwa [Addr.add_lit] at h).below (w' := W) hb
               go_region_law (first
                 | (refine step_append_any _ rfl (.tmp 35) (.tmp 40) 24 rfl w1.heap.size 9 i0 (.string ⟨#[]⟩) 1 16 Try.underlying24 HI.out HI0.out HI1.out HI2.out rfl (by decide) v2 (0 + k) ([] ++ strs (rows.take k)) (by rfl) ho2 (.slice (some ⟨b0, o0 + r', none⟩) (n - r') (cp - r')) (n - r') (strs (rows.drop r')) (by rfl) (BR.out _ HBB2) (strs_oneCell _) (by unfold maxLen; omega) (by omega) (Nat.le_trans (by simp) hg2.size) ?_; intro v4 w4 ho4 hg4; obtain ⟨m3, hm3⟩ : ∃ m, m = 0 + k + (n - r') := ⟨_, rfl⟩; rw [← hm3] at ho4; have HM3 := Lib.hid hm3; clear hm3; obtain ⟨b3, c3, rfl, _, _, _⟩ := own_form ho4; have O4x := Lib.hid ho4; have hs9 : w1.heap.size ≤ w4.heap.size := Nat.le_trans (Nat.le_trans (by simp) hg2.size) hg4.size; have B3 := Lib.hid (below_own HBW2 ho2 B1.out.size hg4); have Q2 := Lib.hid (Q02.out.grown hg4 (fun h => by have := (ho2.lt _ h.symm).1; omega)); have Q3 := Lib.hid (Q12.out.grown hg4 (fun h => by have := (ho2.lt _ h.symm).1; omega)); obtain ⟨x0, x1, x2, x3, x4, x5, x6⟩ := Q2.out.cells; obtain ⟨f0, f1, f2, f3, f4, f5⟩ := Q2.out.fr; clear hg4 ho4)
                 | (refine step_append_any _ rfl (.tmp 30) (.tmp 34) 24 rfl w1.heap.size 9 i0 (.string ⟨#[]⟩) 1 16 Try.underlying24 HI.out HI0.out HI1.out HI2.out rfl (by decide) (.slice (some ⟨w1.heap.size, 0, none⟩) 0 0) 0 [] (by rfl) (own_empty1 w1) (.slice (some ⟨b0, o0, none⟩) k cp) k (strs (rows.take k)) (by rfl) TA.out (strs_oneCell _) (by unfold maxLen; omega) (by omega) (by simp) ?_; intro v2 w2 ho2 hg2; have HBW2 := below_own BW1.out (own_empty1 w1) B1.out.size hg2; have HBB2 := below_own BB1.out (own_empty1 w1) (Nat.le_refl _) hg2; have Q02 := Lib.hid ((Q01.out).grown hg2 (fun h => by simp [Value.ownBlock] at h; omega)); have Q12 := Lib.hid ((Q11.out).grown hg2 (fun h => by simp [Value.ownBlock] at h; omega)); obtain ⟨x0, x1, x2, x3, x4, x5, x6⟩ := Q02.out.cells))
               all_goals
                 have O3 : Hid (w4.ownsRow w1.heap.size 9 1 (.slice b3 m3 c3) (rows.take k ++ rows.drop (k + 1)).length (strs (rows.take k ++ rows.drop (k + 1)))) := Lib.hid (woown O4x.out HM3.out (by have := HR'.out; omega) (by rw [HR'.out]) HN.out (by omega))
                 clear O4x
                 have B4 := Lib.hid (OthersKept.below B3.out (one_kept w4 w.heap.size 5 (.slice b3 m3 c3)) (fun j hj e => by omega))
                 have O4 := Lib.hid (own_set_far (g := w.heap.size) (i := 5) (u := .slice b3 m3 c3) O3.out (fun j hj => by have := (O3.out.lt j hj).1; omega))
                 have P0 := Lib.hid (Q2.out.set5 (.slice b3 m3 c3))
                 have P1 := Lib.hid (Q3.out.kept (one_kept w4 w.heap.size 5 (.slice b3 m3 c3)) (by omega))
                 clear Q2 Q3 O3
                 go_wp2_with fail
                 all_goals go_meet
                 all_goals exact ⟨b3, m3, c3, O4, P0, P1, B4⟩
            case rest =>
             obtain ⟨b3, m3, c3, O4, P0, P1, B4⟩ := hcut
             clear x0 x1 x2 x3 x4 x5 x6 z0 z6
             obtain ⟨x0, x1, x2, x3, x4, x5, x6⟩ := P0.out.cells
             obtain ⟨y0, y1, y2, y3, y4, y5, y6⟩ := P1.out.cells
             obtain ⟨f0, f1, f2, f3, f4, f5⟩ := P1.out.fr
             have XB := Lib.hid (P1.out.put kind level id lsn next (.slice b3 m3 c3))
             have hk6 := fun (W : World) => setPg_kept W (w.heap.size + 1) kind level id lsn next (.slice b3 m3 c3)
             have XK := Lib.hid (OthersKept.below B4.out (hk6 _) (fun k hk e => by omega))
             have XO := Lib.hid (texts_own ((hk6 _).owns O4.out (fun j hj e => by have := (O4.out.lt j hj).1; omega))).1
             clear hk6
             go_wp2_with fail
             refine bodyPost_ret (v := .tuple #[.agg #[.int .u8 kind, .int .u8 level, .int .u32 id, .int .u64 lsn, .int .u32 next, .slice b3 m3 c3], .int .i64 0]) (results_pg (p := 4) (u := 5) (by kernel_rfl) _ _ rfl XB.out) rfl ?_
             exact ⟨.slice b3 m3 c3, by have h := HR.out; subst h; rfl, by have h := HR.out; subst h; exact XO.out, XK.out⟩
          · have a1 : ((kind : Int) == 2) = true := by simp; omega
            have a2 : ((n : Int) == 1) = false := by simp; omega
            clear hk3 hn3
            go_upto_region 7 with fail
            have TK := (T1.out.take k cp (by omega) (by omega) (Nat.le_refl _)).below ((alloc_below w1 (.cells #[] 9)).drew)
            have TA := Lib.hid TK.reads
            have hlk : (rows.take k).length = k := by have := HN.out; simp; omega
            rw [hlk] at TA
            clear TK hlk
            have hs0 := x0
            have hs1 := Q1.out.lt
            have BB1 := Lib.hid ((alloc_below w1 (.cells #[] 9)).drew)
            have BW1 := Lib.hid (below_then B1.out BB1.out)
            have Q01 := Lib.hid (Q0.out.below BB1.out)
            have Q11 := Lib.hid (Q1.out.below BB1.out)
            obtain ⟨r', hr'⟩ : ∃ x, x = k + 1 := ⟨_, rfl⟩
            have v1 : IntKind.i64.wrap ((k : Int) + 1) = (r' : Int) := by rw [show (r' : Int) = (k : Int) + 1 by omega]; exact IntWalk.i64_in _ ⟨by omega, by omega⟩
            have q2 : (0 : Int) ≤ (k : Int) := by omega
            have q3 : (k : Int) ≤ (cp : Int) := by omega
            have q4 : (0 : Int) ≤ (r' : Int) := by omega
            have q5 : (r' : Int) ≤ (n : Int) := by omega
            have q6 : (r' : Int) ≤ (cp : Int) := by omega
            have q7 : r' ≤ n := by omega
            have q8 : k ≤ cp := by omega
            obtain ⟨b0, o0, rfl, hb0, _⟩ := H5.out (by have := HN.out; omega)
            have HR' := Lib.hid hr'
            clear hr'
            have z6 := x6
            have z0 := x0
            clear x0 x1 x2 x3 x4 x5 x6
            obtain ⟨x0, x1, x2, x3, x4, x5, x6⟩ := Q01.out.cells
            go_cut [41] (fun s41 w' => ∃ b3 m3 c3, Hid (w'.ownsRow w1.heap.size 9 1 (.slice b3 m3 c3) (rows.take k ++ rows.drop (k + 1)).length (strs (rows.take k ++ rows.drop (k + 1)))) ∧ Hid (PgBox w' w.heap.size kind level id lsn next (.slice b3 m3 c3)) ∧ Hid (PgBox w' (w.heap.size + 1) 0 0 0 0 0 (.slice none 0 0)) ∧ Hid (Below w.heap.size w w'))
            case first =>
             by_cases hck : cp = r'
             · obtain rfl : cp = n := by omega
               subst hck
               have BR := Lib.hid fun W (hb : Below w1.heap.size w1 W) => reads_none W ⟨b0, o0, none⟩ 0 0 rfl
               go_region_law (first
                 | (refine step_append_any _ rfl (.tmp 35) (.tmp 40) 24 rfl w1.heap.size 9 i0 (.string ⟨#[]⟩) 1 16 Try.underlying24 HI.out HI0.out HI1.out HI2.out rfl (by decide) v2 (0 + k) ([] ++ strs (rows.take k)) (by rfl) ho2 (.slice (some ⟨b0, o0, none⟩) 0 0) 0 [] (by rfl) (BR.out _ HBB2) (fun u hu => by cases hu) (by unfold maxLen; omega) (by omega) (Nat.le_trans (by simp) hg2.size) ?_; intro v4 w4 ho4 hg4; obtain ⟨m3, hm3⟩ : ∃ m, m = 0 + k + 0 := ⟨_, rfl⟩; rw [← hm3] at ho4; have HM3 := Lib.hid hm3; clear hm3; obtain ⟨b3, c3, rfl, _, _, _⟩ := own_form ho4; have O4x := Lib.hid ho4; have hs9 : w1.heap.size ≤ w4.heap.size := Nat.le_trans (Nat.le_trans (by simp) hg2.size) hg4.size; have B3 := Lib.hid (below_own HBW2 ho2 B1.out.size hg4); have Q2 := Lib.hid (Q02.out.grown hg4 (fun h => by have := (ho2.lt _ h.symm).1; omega)); have Q3 := Lib.hid (Q12.out.grown hg4 (fun h => by have := (ho2.lt _ h.symm).1; omega)); obtain ⟨x0, x1, x2, x3, x4, x5, x6⟩ := Q2.out.cells; obtain ⟨f0, f1, f2, f3, f4, f5⟩ := Q2.out.fr; clear hg4 ho4)
                 | (refine step_append_any _ rfl (.tmp 30) (.tmp 34) 24 rfl w1.heap.size 9 i0 (.string ⟨#[]⟩) 1 16 Try.underlying24 HI.out HI0.out HI1.out HI2.out rfl (by decide) (.slice (some ⟨w1.heap.size, 0, none⟩) 0 0) 0 [] (by rfl) (own_empty1 w1) (.slice (some ⟨b0, o0, none⟩) k cp) k (strs (rows.take k)) (by rfl) TA.out (strs_oneCell _) (by unfold maxLen; omega) (by omega) (by simp) ?_; intro v2 w2 ho2 hg2; have HBW2 := below_own BW1.out (own_empty1 w1) B1.out.size hg2; have HBB2 := below_own BB1.out (own_empty1 w1) (Nat.le_refl _) hg2; have Q02 := Lib.hid ((Q01.out).grown hg2 (fun h => by simp [Value.ownBlock] at h; omega)); have Q12 := Lib.hid ((Q11.out).grown hg2 (fun h => by simp [Value.ownBlock] at h; omega)); obtain ⟨x0, x1, x2, x3, x4, x5, x6⟩ := Q02.out.cells))
               all_goals
                 have O3 : Hid (w4.ownsRow w1.heap.size 9 1 (.slice b3 m3 c3) (rows.take k ++ rows.drop (k + 1)).length (strs (rows.take k ++ rows.drop (k + 1)))) := Lib.hid (woown O4x.out HM3.out (by have := HR'.out; have := HN.out; omega) (by rw [List.drop_eq_nil_of_le (by have := HR'.out; have := HN.out; omega)]; rfl) HN.out (by omega))
                 clear O4x
                 have B4 := Lib.hid (OthersKept.below B3.out (one_kept w4 w.heap.size 5 (.slice b3 m3 c3)) (fun j hj e => by omega))
                 have O4 := Lib.hid (own_set_far (g := w.heap.size) (i := 5) (u := .slice b3 m3 c3) O3.out (fun j hj => by have := (O3.out.lt j hj).1; omega))
                 have P0 := Lib.hid (Q2.out.set5 (.slice b3 m3 c3))
                 have P1 := Lib.hid (Q3.out.kept (one_kept w4 w.heap.size 5 (.slice b3 m3 c3)) (by omega))
                 clear Q2 Q3 O3
                 go_wp2_with fail
                 all_goals go_meet
                 all_goals exact ⟨b3, m3, c3, O4, P0, P1, B4⟩
             · have BR := Lib.hid fun W hb => (show Reads w1 (.slice (some ⟨b0, o0 + r', none⟩) (n - r') (cp - r')) (n - r') 1 (strs (rows.drop r')) by have h := T1.out.back r' (cp - r') q7; rwa [Addr.add_lit] at h).below (w' := W) hb
               go_region_law (first
                 | (refine step_append_any _ rfl (.tmp 35) (.tmp 40) 24 rfl w1.heap.size 9 i0 (.string ⟨#[]⟩) 1 16 Try.underlying24 HI.out HI0.out HI1.out HI2.out rfl (by decide) v2 (0 + k) ([] ++ strs (rows.take k)) (by rfl) ho2 (.slice (some ⟨b0, o0 + r', none⟩) (n - r') (cp - r')) (n - r') (strs (rows.drop r')) (by rfl) (BR.out _ HBB2) (strs_oneCell _) (by unfold maxLen; omega) (by omega) (Nat.le_trans (by simp) hg2.size) ?_; intro v4 w4 ho4 hg4; obtain ⟨m3, hm3⟩ : ∃ m, m = 0 + k + (n - r') := ⟨_, rfl⟩; rw [← hm3] at ho4; have HM3 := Lib.hid hm3; clear hm3; obtain ⟨b3, c3, rfl, _, _, _⟩ := own_form ho4; have O4x := Lib.hid ho4; have hs9 : w1.heap.size ≤ w4.heap.size := Nat.le_trans (Nat.le_trans (by simp) hg2.size) hg4.size; have B3 := Lib.hid (below_own HBW2 ho2 B1.out.size hg4); have Q2 := Lib.hid (Q02.out.grown hg4 (fun h => by have := (ho2.lt _ h.symm).1; omega)); have Q3 := Lib.hid (Q12.out.grown hg4 (fun h => by have := (ho2.lt _ h.symm).1; omega)); obtain ⟨x0, x1, x2, x3, x4, x5, x6⟩ := Q2.out.cells; obtain ⟨f0, f1, f2, f3, f4, f5⟩ := Q2.out.fr; clear hg4 ho4)
                 | (refine step_append_any _ rfl (.tmp 30) (.tmp 34) 24 rfl w1.heap.size 9 i0 (.string ⟨#[]⟩) 1 16 Try.underlying24 HI.out HI0.out HI1.out HI2.out rfl (by decide) (.slice (some ⟨w1.heap.size, 0, none⟩) 0 0) 0 [] (by rfl) (own_empty1 w1) (.slice (some ⟨b0, o0, none⟩) k cp) k (strs (rows.take k)) (by rfl) TA.out (strs_oneCell _) (by unfold maxLen; omega) (by omega) (by simp) ?_; intro v2 w2 ho2 hg2; have HBW2 := below_own BW1.out (own_empty1 w1) B1.out.size hg2; have HBB2 := below_own BB1.out (own_empty1 w1) (Nat.le_refl _) hg2; have Q02 := Lib.hid ((Q01.out).grown hg2 (fun h => by simp [Value.ownBlock] at h; omega)); have Q12 := Lib.hid ((Q11.out).grown hg2 (fun h => by simp [Value.ownBlock] at h; omega)); obtain ⟨x0, x1, x2, x3, x4, x5, x6⟩ := Q02.out.cells))
               all_goals
                 have O3 : Hid (w4.ownsRow w1.heap.size 9 1 (.slice b3 m3 c3) (rows.take k ++ rows.drop (k + 1)).length (strs (rows.take k ++ rows.drop (k + 1)))) := Lib.hid (woown O4x.out HM3.out (by have := HR'.out; omega) (by rw [HR'.out]) HN.out (by omega))
                 clear O4x
                 have B4 := Lib.hid (OthersKept.below B3.out (one_kept w4 w.heap.size 5 (.slice b3 m3 c3)) (fun j hj e => by omega))
                 have O4 := Lib.hid (own_set_far (g := w.heap.size) (i := 5) (u := .slice b3 m3 c3) O3.out (fun j hj => by have := (O3.out.lt j hj).1; omega))
                 have P0 := Lib.hid (Q2.out.set5 (.slice b3 m3 c3))
                 have P1 := Lib.hid (Q3.out.kept (one_kept w4 w.heap.size 5 (.slice b3 m3 c3)) (by omega))
                 clear Q2 Q3 O3
                 go_wp2_with fail
                 all_goals go_meet
                 all_goals exact ⟨b3, m3, c3, O4, P0, P1, B4⟩
            case rest =>
             obtain ⟨b3, m3, c3, O4, P0, P1, B4⟩ := hcut
             clear x0 x1 x2 x3 x4 x5 x6 z0 z6
             obtain ⟨x0, x1, x2, x3, x4, x5, x6⟩ := P0.out.cells
             obtain ⟨y0, y1, y2, y3, y4, y5, y6⟩ := P1.out.cells
             obtain ⟨f0, f1, f2, f3, f4, f5⟩ := P1.out.fr
             have XB := Lib.hid (P1.out.put kind level id lsn next (.slice b3 m3 c3))
             have hk6 := fun (W : World) => setPg_kept W (w.heap.size + 1) kind level id lsn next (.slice b3 m3 c3)
             have XK := Lib.hid (OthersKept.below B4.out (hk6 _) (fun k hk e => by omega))
             have XO := Lib.hid (texts_own ((hk6 _).owns O4.out (fun j hj e => by have := (O4.out.lt j hj).1; omega))).1
             clear hk6
             go_wp2_with fail
             refine bodyPost_ret (v := .tuple #[.agg #[.int .u8 kind, .int .u8 level, .int .u32 id, .int .u64 lsn, .int .u32 next, .slice b3 m3 c3], .int .i64 0]) (results_pg (p := 4) (u := 5) (by kernel_rfl) _ _ rfl XB.out) rfl ?_
             exact ⟨.slice b3 m3 c3, by have h := HR.out; subst h; rfl, by have h := HR.out; subst h; exact XO.out, XK.out⟩
      · have HR := Lib.hid (R2.out rfl (by omega))
        have hd2 : (n : Int) ≤ i := by omega
        obtain ⟨y0, y1, y2, y3, y4, y5, y6⟩ := Q1.out.cells
        obtain ⟨f0, f1, f2, f3, f4, f5⟩ := Q1.out.fr
        have XB := Lib.hid (Q1.out.put 0 0 0 0 0 (.slice none 0 0))
        have XK := Lib.hid (OthersKept.below B1.out (setPg_kept w1 (w.heap.size + 1) 0 0 0 0 0 (.slice none 0 0)) (fun k hk e => by omega))
        go_wp2_with fail
        refine bodyPost_ret (v := .tuple #[.agg #[.int .u8 (0 : Nat), .int .u8 (0 : Nat), .int .u32 (0 : Nat), .int .u64 (0 : Nat), .int .u32 (0 : Nat), .slice none 0 0], .int .i64 3]) (results_pg (p := 4) (u := 5) (by kernel_rfl) _ _ rfl XB.out) rfl ?_
        exact PgPost.no HR.out XK.out

set_option maxHeartbeats 4000000 in
set_option maxRecDepth 100000 in
theorem nodeWithout_any (p : Pg) (sv : Value) (i : Int) (w : World) (hp : p.wf) (ht : TextsAt w sv p.rows) (hb : weightB p.rows ≤ 1000000) (hi0 : -9223372036854775808 ≤ i) (hi1 : i ≤ 9223372036854775807) :
    Calls Try.prog 56 #[pgV p sv, .int .i64 i] w (PgPost w (withoutB p i)) := by
  have CK := Lib.hid fun W (h : TextsAt W sv p.rows) => nodeCheck_any p sv W hp h hb
  have HT := Lib.hid ht
  have hnb : p.rows.length ≤ 1000000 := by have := weightB_length p.rows; omega
  have CC := Lib.hid fun W (h : TextsAt W sv p.rows) => cloneTexts_any sv p.rows W h hnb
  obtain ⟨n, hn⟩ : ∃ n, n = p.rows.length := ⟨_, rfl⟩
  obtain ⟨A, cp, hsv, h2, h3, h4, h5⟩ := ht
  rw [← hn] at hsv h2 hnb
  subst hsv
  have R1 : Hid (checkB p = false → withoutB p i = (Pg.zero, 7)) := fun h => by unfold withoutB; rw [h]; rfl
  have R2 : Hid (checkB p = true → ¬ (0 ≤ i ∧ i < n) → withoutB p i = (Pg.zero, 3)) := fun h h0 => by unfold withoutB; rw [if_pos h, if_neg (by rw [← hn]; exact h0)]
  have R3 : Hid (checkB p = true → (0 ≤ i ∧ i < n) → p.kind = 2 ∧ n = 1 → withoutB p i = (Pg.zero, 7)) := fun h h0 h1 => by unfold withoutB; rw [if_pos h, if_pos (by rw [← hn]; exact h0), if_pos (by rw [← hn]; exact h1)]
  have R4 : Hid (checkB p = true → (0 ≤ i ∧ i < n) → ¬ (p.kind = 2 ∧ n = 1) → withoutB p i = (p.with (p.rows.take i.toNat ++ p.rows.drop (i.toNat + 1)), 0)) := fun h h0 h1 => by unfold withoutB; rw [if_pos h, if_pos (by rw [← hn]; exact h0), if_neg (by rw [← hn]; exact h1)]
  generalize hc : checkB p = c at *
  generalize withoutB p i = R at *
  have H5 := Lib.hid h5
  clear hc h4 h5
  unfold pgV Pg.with at *
  obtain ⟨kind, level, id, lsn, next, rows⟩ := p
  clear hp hb
  have HN := Lib.hid hn
  clear hn
  simp only at *
  unfold maxLen at h3
  have P0 := Lib.hid ((PgBox.new w kind level id lsn next (.slice A n cp)).keep (.cells #[.int .u8 0, .int .u8 0, .int .u32 0, .int .u64 0, .int .u32 0, .slice none 0 0] 45))
  have P1 := Lib.hid (PgBox.new (w.alloc (.cells #[.int .u8 kind, .int .u8 level, .int .u32 id, .int .u64 lsn, .int .u32 next, .slice A n cp] 45)) 0 0 0 0 0 (.slice none 0 0))
  have hz1 : (w.alloc (.cells #[.int .u8 kind, .int .u8 level, .int .u32 id, .int .u64 lsn, .int .u32 next, .slice A n cp] 45)).heap.size = w.heap.size + 1 := by simp
  rw [hz1] at P1
  clear hz1
  have B0 := Lib.hid ((alloc_below w (.cells #[.int .u8 kind, .int .u8 level, .int .u32 id, .int .u64 lsn, .int .u32 next, .slice A n cp] 45)).alloc (by simp) (.cells #[.int .u8 0, .int .u8 0, .int .u32 0, .int .u64 0, .int .u32 0, .slice none 0 0] 45))
  go_enter Try.func56, Try.ntmps56
  go_wp2_with fail
  generalize (w.alloc (.cells #[.int .u8 kind, .int .u8 level, .int .u32 id, .int .u64 lsn, .int .u32 next, .slice A n cp] 45)).alloc (.cells #[.int .u8 0, .int .u8 0, .int .u32 0, .int .u64 0, .int .u32 0, .slice none 0 0] 45) = w0 at *
  have T0 := Lib.hid (HT.out.below B0.out)
  refine (CK.out _ T0.out).mono ?_
  rintro e w1 ⟨rfl, hb1⟩
  have B1 := Lib.hid (below_then B0.out hb1)
  have T1 := Lib.hid (T0.out.below hb1)
  have Q0 := Lib.hid (P0.out.below hb1)
  have Q1 := Lib.hid (P1.out.below hb1)
  obtain ⟨x0, x1, x2, x3, x4, x5, x6⟩ := Q0.out.cells
  clear hb1 P0 P1
  cases c with
  | false =>
    have HR := Lib.hid (R1.out rfl)
    unfold chkN
    obtain ⟨y0, y1, y2, y3, y4, y5, y6⟩ := Q1.out.cells
    obtain ⟨f0, f1, f2, f3, f4, f5⟩ := Q1.out.fr
    have XB := Lib.hid (Q1.out.put 0 0 0 0 0 (.slice none 0 0))
    have XK := Lib.hid (OthersKept.below B1.out (setPg_kept w1 (w.heap.size + 1) 0 0 0 0 0 (.slice none 0 0)) (fun k hk e => by omega))
    go_wp2_with fail
    refine bodyPost_ret (v := .tuple #[.agg #[.int .u8 (0 : Nat), .int .u8 (0 : Nat), .int .u32 (0 : Nat), .int .u64 (0 : Nat), .int .u32 (0 : Nat), .slice none 0 0], .int .i64 7]) (results_pg (p := 4) (u := 5) (by kernel_rfl) _ _ rfl XB.out) rfl ?_
    exact PgPost.no HR.out XK.out
  | true =>
    unfold chkN
    by_cases ha : i < 0
    · have HR := Lib.hid (R2.out rfl (by omega))
      obtain ⟨y0, y1, y2, y3, y4, y5, y6⟩ := Q1.out.cells
      obtain ⟨f0, f1, f2, f3, f4, f5⟩ := Q1.out.fr
      have XB := Lib.hid (Q1.out.put 0 0 0 0 0 (.slice none 0 0))
      have XK := Lib.hid (OthersKept.below B1.out (setPg_kept w1 (w.heap.size + 1) 0 0 0 0 0 (.slice none 0 0)) (fun k hk e => by omega))
      go_wp2_with fail
      refine bodyPost_ret (v := .tuple #[.agg #[.int .u8 (0 : Nat), .int .u8 (0 : Nat), .int .u32 (0 : Nat), .int .u64 (0 : Nat), .int .u32 (0 : Nat), .slice none 0 0], .int .i64 3]) (results_pg (p := 4) (u := 5) (by kernel_rfl) _ _ rfl XB.out) rfl ?_
      exact PgPost.no HR.out XK.out
    · by_cases hd : i < n
      · obtain ⟨k, rfl⟩ : ∃ k : Nat, i = k := ⟨i.toNat, by omega⟩
        have hkn : k < n := by omega
        have G3 := Lib.hid (R3.out rfl ⟨by omega, by omega⟩)
        have G4 := Lib.hid (R4.out rfl ⟨by omega, by omega⟩)
        rw [show (k : Int).toNat = k by omega] at G4
        by_cases hk2 : kind = 2 ∧ n = 1
        · obtain ⟨hk3, hn3⟩ := hk2
          have HR := Lib.hid (G3.out ⟨hk3, hn3⟩)
          have a1 : ((kind : Int) == 2) = true := by simp; omega
          subst hn3
          obtain rfl : k = 0 := by omega
          clear hk3
          obtain ⟨y0, y1, y2, y3, y4, y5, y6⟩ := Q1.out.cells
          obtain ⟨f0, f1, f2, f3, f4, f5⟩ := Q1.out.fr
          have XB := Lib.hid (Q1.out.put 0 0 0 0 0 (.slice none 0 0))
          have XK := Lib.hid (OthersKept.below B1.out (setPg_kept w1 (w.heap.size + 1) 0 0 0 0 0 (.slice none 0 0)) (fun k hk e => by omega))
          go_wp2_with fail
          refine bodyPost_ret (v := .tuple #[.agg #[.int .u8 (0 : Nat), .int .u8 (0 : Nat), .int .u32 (0 : Nat), .int .u64 (0 : Nat), .int .u32 (0 : Nat), .slice none 0 0], .int .i64 7]) (results_pg (p := 4) (u := 5) (by kernel_rfl) _ _ rfl XB.out) rfl ?_
          exact PgPost.no HR.out XK.out
        · have HR := Lib.hid (G4.out hk2)
          have hk3 : kind ≠ 2 ∨ (kind = 2 ∧ n ≠ 1) := by omega
          clear hk2 G3 G4 R1 R2 R3 R4
          rcases hk3 with hk3 | ⟨hk3, hn3⟩
          · have a1 : ((kind : Int) == 2) = false := by simp; omega
            clear hk3
            go_wp2_with fail
            refine (CC.out _ T1.out).mono ?_
            rintro e w2 ⟨v, rfl, ho2, hb2⟩
            have O2 := Lib.hid ho2
            have B2 := Lib.hid (below_then B1.out hb2)
            have P0 := Lib.hid (Q0.out.below hb2)
            have P1 := Lib.hid (Q1.out.below hb2)
            have hs1 := x0
            have hs2 := hb2.size
            have hs11 := Q1.out.lt
            clear ho2 hb2 Q0 Q1 x0 x1 x2 x3 x4 x5 x6
            obtain ⟨x0, x1, x2, x3, x4, x5, x6⟩ := P0.out.cells
            have CR := Lib.hid (delText_any v rows w1.heap.size k w2 O2.out (by rw [← HN.out]; omega) (by rw [← HN.out]; exact hnb) hs2)
            go_wp2_with fail
            refine CR.out.mono ?_
            rintro e w3 ⟨v', rfl, ho3, hg3⟩
            have B3 := Lib.hid (B2.out.grown hg3 (by omega) (fun j hj => by have := (O2.out.lt j hj).1; omega))
            have O3 : Hid (w3.ownsRow w1.heap.size 9 1 v' (rows.take k ++ rows.drop (k + 1)).length (strs (rows.take k ++ rows.drop (k + 1)))) := by
              show World.ownsRow _ _ _ _ _ _ _
              have hl : (rows.take k ++ rows.drop (k + 1)).length = rows.length - 1 := by have := HN.out; simp; omega
              rw [hl]
              exact ho3
            obtain ⟨m3, hm3⟩ : ∃ m, m = (rows.take k ++ rows.drop (k + 1)).length := ⟨_, rfl⟩
            obtain ⟨b3, c3, hv3, _, _, _⟩ := own_form O3.out
            rw [← hm3] at hv3
            clear hm3
            subst hv3
            have Q2 := Lib.hid (P0.out.grown hg3 (fun h => by have := (O2.out.lt _ h.symm).1; omega))
            have Q3 := Lib.hid (P1.out.grown hg3 (fun h => by have := (O2.out.lt _ h.symm).1; omega))
            have hs3 : w1.heap.size ≤ w3.heap.size := Nat.le_trans hs2 hg3.size
            clear ho3 hg3 P0 P1 x0 x1 x2 x3 x4 x5 x6 CR
            obtain ⟨x0, x1, x2, x3, x4, x5, x6⟩ := Q2.out.cells
            obtain ⟨f0, f1, f2, f3, f4, f5⟩ := Q2.out.fr
            have B4 := Lib.hid (OthersKept.below B3.out (one_kept w3 w.heap.size 5 (.slice b3 m3 c3)) (fun j hj e => by omega))
            have O4 := Lib.hid (own_set_far (g := w.heap.size) (i := 5) (u := .slice b3 m3 c3) O3.out (fun j hj => by have := (O3.out.lt j hj).1; omega))
            have P0 := Lib.hid (Q2.out.set5 (.slice b3 m3 c3))
            have P1 := Lib.hid (Q3.out.kept (one_kept w3 w.heap.size 5 (.slice b3 m3 c3)) (by omega))
            clear Q2 Q3 O3
            go_upto_region 8 with fail
            generalize w3.setCell ⟨w.heap.size, 5, none⟩ (.slice b3 m3 c3) = w5 at *
            clear x0 x1 x2 x3 x4 x5 x6 f0 f1 f2 f3 f4 f5
            obtain ⟨x0, x1, x2, x3, x4, x5, x6⟩ := P0.out.cells
            obtain ⟨y0, y1, y2, y3, y4, y5, y6⟩ := P1.out.cells
            obtain ⟨f0, f1, f2, f3, f4, f5⟩ := P1.out.fr
            have XB := Lib.hid (P1.out.put kind level id lsn next (.slice b3 m3 c3))
            have hk6 := setPg_kept w5 (w.heap.size + 1) kind level id lsn next (.slice b3 m3 c3)
            have XK := Lib.hid (OthersKept.below B4.out hk6 (fun k hk e => by omega))
            have XO := Lib.hid (texts_own (hk6.owns O4.out (fun j hj e => by have := (O4.out.lt j hj).1; omega))).1
            clear hk6
            go_wp2_with fail
            refine bodyPost_ret (v := .tuple #[.agg #[.int .u8 kind, .int .u8 level, .int .u32 id, .int .u64 lsn, .int .u32 next, .slice b3 m3 c3], .int .i64 0]) (results_pg (p := 4) (u := 5) (by kernel_rfl) _ _ rfl XB.out) rfl ?_
            exact ⟨.slice b3 m3 c3, by have h := HR.out; subst h; rfl, by have h := HR.out; subst h; exact XO.out, XK.out⟩
          · have a1 : ((kind : Int) == 2) = true := by simp; omega
            have a2 : ((n : Int) == 1) = false := by simp; omega
            clear hk3 hn3
            go_wp2_with fail
            refine (CC.out _ T1.out).mono ?_
            rintro e w2 ⟨v, rfl, ho2, hb2⟩
            have O2 := Lib.hid ho2
            have B2 := Lib.hid (below_then B1.out hb2)
            have P0 := Lib.hid (Q0.out.below hb2)
            have P1 := Lib.hid (Q1.out.below hb2)
            have hs1 := x0
            have hs2 := hb2.size
            have hs11 := Q1.out.lt
            clear ho2 hb2 Q0 Q1 x0 x1 x2 x3 x4 x5 x6
            obtain ⟨x0, x1, x2, x3, x4, x5, x6⟩ := P0.out.cells
            have CR := Lib.hid (delText_any v rows w1.heap.size k w2 O2.out (by rw [← HN.out]; omega) (by rw [← HN.out]; exact hnb) hs2)
            go_wp2_with fail
            refine CR.out.mono ?_
            rintro e w3 ⟨v', rfl, ho3, hg3⟩
            have B3 := Lib.hid (B2.out.grown hg3 (by omega) (fun j hj => by have := (O2.out.lt j hj).1; omega))
            have O3 : Hid (w3.ownsRow w1.heap.size 9 1 v' (rows.take k ++ rows.drop (k + 1)).length (strs (rows.take k ++ rows.drop (k + 1)))) := by
              show World.ownsRow _ _ _ _ _ _ _
              have hl : (rows.take k ++ rows.drop (k + 1)).length = rows.length - 1 := by have := HN.out; simp; omega
              rw [hl]
              exact ho3
            obtain ⟨m3, hm3⟩ : ∃ m, m = (rows.take k ++ rows.drop (k + 1)).length := ⟨_, rfl⟩
            obtain ⟨b3, c3, hv3, _, _, _⟩ := own_form O3.out
            rw [← hm3] at hv3
            clear hm3
            subst hv3
            have Q2 := Lib.hid (P0.out.grown hg3 (fun h => by have := (O2.out.lt _ h.symm).1; omega))
            have Q3 := Lib.hid (P1.out.grown hg3 (fun h => by have := (O2.out.lt _ h.symm).1; omega))
            have hs3 : w1.heap.size ≤ w3.heap.size := Nat.le_trans hs2 hg3.size
            clear ho3 hg3 P0 P1 x0 x1 x2 x3 x4 x5 x6 CR
            obtain ⟨x0, x1, x2, x3, x4, x5, x6⟩ := Q2.out.cells
            obtain ⟨f0, f1, f2, f3, f4, f5⟩ := Q2.out.fr
            have B4 := Lib.hid (OthersKept.below B3.out (one_kept w3 w.heap.size 5 (.slice b3 m3 c3)) (fun j hj e => by omega))
            have O4 := Lib.hid (own_set_far (g := w.heap.size) (i := 5) (u := .slice b3 m3 c3) O3.out (fun j hj => by have := (O3.out.lt j hj).1; omega))
            have P0 := Lib.hid (Q2.out.set5 (.slice b3 m3 c3))
            have P1 := Lib.hid (Q3.out.kept (one_kept w3 w.heap.size 5 (.slice b3 m3 c3)) (by omega))
            clear Q2 Q3 O3
            go_upto_region 8 with fail
            generalize w3.setCell ⟨w.heap.size, 5, none⟩ (.slice b3 m3 c3) = w5 at *
            clear x0 x1 x2 x3 x4 x5 x6 f0 f1 f2 f3 f4 f5
            obtain ⟨x0, x1, x2, x3, x4, x5, x6⟩ := P0.out.cells
            obtain ⟨y0, y1, y2, y3, y4, y5, y6⟩ := P1.out.cells
            obtain ⟨f0, f1, f2, f3, f4, f5⟩ := P1.out.fr
            have XB := Lib.hid (P1.out.put kind level id lsn next (.slice b3 m3 c3))
            have hk6 := setPg_kept w5 (w.heap.size + 1) kind level id lsn next (.slice b3 m3 c3)
            have XK := Lib.hid (OthersKept.below B4.out hk6 (fun k hk e => by omega))
            have XO := Lib.hid (texts_own (hk6.owns O4.out (fun j hj e => by have := (O4.out.lt j hj).1; omega))).1
            clear hk6
            go_wp2_with fail
            refine bodyPost_ret (v := .tuple #[.agg #[.int .u8 kind, .int .u8 level, .int .u32 id, .int .u64 lsn, .int .u32 next, .slice b3 m3 c3], .int .i64 0]) (results_pg (p := 4) (u := 5) (by kernel_rfl) _ _ rfl XB.out) rfl ?_
            exact ⟨.slice b3 m3 c3, by have h := HR.out; subst h; rfl, by have h := HR.out; subst h; exact XO.out, XK.out⟩
      · have HR := Lib.hid (R2.out rfl (by omega))
        have hd2 : (n : Int) ≤ i := by omega
        obtain ⟨y0, y1, y2, y3, y4, y5, y6⟩ := Q1.out.cells
        obtain ⟨f0, f1, f2, f3, f4, f5⟩ := Q1.out.fr
        have XB := Lib.hid (Q1.out.put 0 0 0 0 0 (.slice none 0 0))
        have XK := Lib.hid (OthersKept.below B1.out (setPg_kept w1 (w.heap.size + 1) 0 0 0 0 0 (.slice none 0 0)) (fun k hk e => by omega))
        go_wp2_with fail
        refine bodyPost_ret (v := .tuple #[.agg #[.int .u8 (0 : Nat), .int .u8 (0 : Nat), .int .u32 (0 : Nat), .int .u64 (0 : Nat), .int .u32 (0 : Nat), .slice none 0 0], .int .i64 3]) (results_pg (p := 4) (u := 5) (by kernel_rfl) _ _ rfl XB.out) rfl ?_
        exact PgPost.no HR.out XK.out

set_option maxHeartbeats 4000000 in
set_option maxRecDepth 100000 in
theorem nodeFits_any (p : Pg) (sv : Value) (i : Int) (x : List UInt8) (is : Bool) (w : World) (hp : p.wf) (ht : TextsAt w sv p.rows) (hb : weightB p.rows + (4 + x.length) ≤ 1000000) (hi0 : -9223372036854775808 ≤ i) (hi1 : i ≤ 9223372036854775807) :
    Calls Try.prog 58 #[pgV p sv, .int .i64 i, .string ⟨x.toArray⟩, .bool is] w fun e w' => e = .returned (.bool ((withB p i x is).2 == 0)) ∧ Below w.heap.size w w' := by
  have CW := Lib.hid fun W (h : TextsAt W sv p.rows) => nodeWith_any p sv i x is W hp h hb hi0 hi1
  have HT := Lib.hid ht
  generalize withB p i x is = Q at *
  obtain ⟨⟨k2, l2, i2, s2, n2, rows2⟩, e2⟩ := Q
  unfold pgV at *
  obtain ⟨kind, level, id, lsn, next, rows⟩ := p
  clear hp hb ht
  simp only at *
  have B0 := Lib.hid (alloc_below w (.cells #[.int .u8 kind, .int .u8 level, .int .u32 id, .int .u64 lsn, .int .u32 next, sv] 45))
  go_enter Try.func58, Try.ntmps58
  go_wp2_with fail
  generalize w.alloc (.cells #[.int .u8 kind, .int .u8 level, .int .u32 id, .int .u64 lsn, .int .u32 next, sv] 45) = w0 at *
  have T0 := Lib.hid (HT.out.below B0.out)
  refine (CW.out _ T0.out).mono ?_
  rintro e w1 ⟨sv1, rfl, hT1, hb1⟩
  have B1 := Lib.hid (below_then B0.out hb1)
  unfold pgV at *
  obtain ⟨A1, cp1, hv1, g2, g3, g4, g5⟩ := hT1
  subst hv1
  have B2 := Lib.hid (B1.out.alloc B1.out.size (.cells #[.int .u8 k2, .int .u8 l2, .int .u32 i2, .int .u64 s2, .int .u32 n2, .slice A1 rows2.length cp1] 45))
  clear hb1 g2 g3 g4 g5
  simp only at *
  go_wp2_with fail
  go_ret
  exact ⟨rfl, B2.out⟩

end Go.Proofs.Ytjcfnfpilladfaa
