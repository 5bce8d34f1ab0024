/- chapter 08: With -/
import Derived.Test.YtjcfnfpilladfaaRows
import Derived.Test.YtjcfnfpilladfaaNodeRefPut
import Derived.WalkKit
import Derived.WalkLawsBesides
import Derived.WalkSpells
import Derived.LoopTactic
import Derived.WalkMore
import Derived.LoopN
import Derived.Laws.BitsAllLaws
import Derived.Laws.IdiomStrings
import Derived.BigQuiet
import Derived.Deep.QuietTactic
import Derived.Deep.DeepCutAuto
import Derived.Deep.RegionHeld3
import Derived.Deep.DrawnRows
import Derived.Lib.Hide
import Derived.Outline
import Derived.Deep.DeepMust
import Derived.Handy
namespace Go.Proofs.Ytjcfnfpilladfaa
open Go.RowKit
set_option linter.unusedVariables false
set_option linter.unusedSimpArgs false

theorem TextsAt.off_pg {w w' : World} {g kind level id lsn next : Nat} {sv v : Value} {ts : List (List UInt8)} (h : TextsAt w v ts) (hp : PgBox w g kind level id lsn next sv) (hs : ∀ s, sv ≠ .string s) (hk : OthersKept w w' (fun k => k = g)) : TextsAt w' v ts := by
  obtain ⟨A, cp, h1, h2, h3, h4, h5⟩ := h
  refine ⟨A, cp, h1, h2, h3, h4, fun h0 => ?_⟩
  obtain ⟨b, o, h6, h7, h8⟩ := h5 h0
  have hne : b ≠ g := by
    intro e
    subst e
    have h9 := h8 0 h0
    rw [blk_cell hp] at h9
    have h10 : o + 0 < 6 := by
      have := (Array.getElem?_eq_some_iff.1 h9).1
      simpa using this
    obtain rfl | rfl | rfl | rfl | rfl | rfl : o = 0 ∨ o = 1 ∨ o = 2 ∨ o = 3 ∨ o = 4 ∨ o = 5 := by omega
    all_goals first
      | (simp at h9; done)
      | (simp at h9; exact hs _ h9)
  exact ⟨b, o, h6, Nat.lt_of_lt_of_le h7 hk.size, fun j hj => hk.cell (h8 j hj) hne⟩
set_option maxHeartbeats 4000000 in
set_option maxRecDepth 100000 in
theorem nodeWith_any (p : Pg) (sv : Value) (i : Int) (x : List UInt8) (is : Bool) (w : World) (hp : p.wf) (ht : TextsAt w sv p.rows) (hb : weightB p.rows + (4 + x.length) ≤ 1000000) (hi0 : -9223372036854775808 ≤ i) (hi1 : i ≤ 9223372036854775807) :
    Calls Try.prog 53 #[pgV p sv, .int .i64 i, .string ⟨x.toArray⟩, .bool is] w (PgPost w (withB p i x is)) := by
  have CW := Lib.hid fun W (h : TextsAt W sv p.rows) => nodeWith0_any p sv i x is W hp h hb hi0 hi1
  have HT := Lib.hid ht
  have R1 : Hid (¬ (putB p i x is).2 = 0 → withB p i x is = (Pg.zero, (putB p i x is).2)) := fun h => by unfold withB; rw [if_neg h]
  have R2 : Hid ((putB p i x is).2 = 0 → (putB p i x is).1.may = false → withB p i x is = (Pg.zero, 4)) := fun h h2 => by unfold withB; rw [if_pos h, if_neg (by rw [h2]; simp)]
  have R3 : Hid ((putB p i x is).2 = 0 → (putB p i x is).1.may = true → withB p i x is = ((putB p i x is).1, 0)) := fun h h2 => by unfold withB; rw [if_pos h, if_pos h2]
  have CM : Hid ((putB p i x is).2 = 0 → ∀ sv' W, TextsAt W sv' (putB p i x is).1.rows → Calls Try.prog 51 #[pgV (putB p i x is).1 sv'] W fun e w' => e = .returned (.bool (putB p i x is).1.may) ∧ Below W.heap.size W w') := fun h sv' W hT => by
    have hq := (putB_ok h).2.2.2
    refine pageMay_any (putB p i x is).1 sv' W ?_ hT ?_
    · rw [hq]; exact hp
    · rw [hq]; have := putRows_weight p.rows i.toNat x is; show weightB (putRows p.rows i.toNat x is) ≤ _; omega
  generalize withB p i x is = R at *
  generalize (putB p i x is) = Q at *
  obtain ⟨⟨k2, l2, i2, s2, n2, rows2⟩, e2⟩ := Q
  generalize hM : Pg.may ⟨k2, l2, i2, s2, n2, rows2⟩ = M at *
  clear hM
  unfold pgV at *
  obtain ⟨kind, level, id, lsn, next, rows⟩ := p
  clear hp hb ht
  simp only at *
  have P1 := Lib.hid (PgBox.new (w.alloc (.cells #[.int .u8 kind, .int .u8 level, .int .u32 id, .int .u64 lsn, .int .u32 next, sv] 45)) 0 0 0 0 0 (.slice none 0 0))
  have hz1 : (w.alloc (.cells #[.int .u8 kind, .int .u8 level, .int .u32 id, .int .u64 lsn, .int .u32 next, sv] 45)).heap.size = w.heap.size + 1 := by simp
  rw [hz1] at P1
  clear hz1
  have P0 := Lib.hid ((PgBox.new w kind level id lsn next sv).keep (.cells #[.int .u8 0, .int .u8 0, .int .u32 0, .int .u64 0, .int .u32 0, .slice none 0 0] 45))
  have B0 := Lib.hid ((alloc_below w (.cells #[.int .u8 kind, .int .u8 level, .int .u32 id, .int .u64 lsn, .int .u32 next, sv] 45)).alloc (by simp) (.cells #[.int .u8 0, .int .u8 0, .int .u32 0, .int .u64 0, .int .u32 0, .slice none 0 0] 45))
  go_enter Try.func53, Try.ntmps53
  go_wp2_with fail
  generalize (w.alloc (.cells #[.int .u8 kind, .int .u8 level, .int .u32 id, .int .u64 lsn, .int .u32 next, sv] 45)).alloc (.cells #[.int .u8 0, .int .u8 0, .int .u32 0, .int .u64 0, .int .u32 0, .slice none 0 0] 45) = w0 at *
  have T0 := Lib.hid (HT.out.below B0.out)
  refine (CW.out _ T0.out).mono ?_
  rintro e w1 ⟨sv1, rfl, hT1, hb1⟩
  have B1 := Lib.hid (below_then B0.out hb1)
  have Q1 := Lib.hid (P1.out.below hb1)
  have hs1 := Q1.out.lt
  unfold pgV at *
  have HT1 := Lib.hid hT1
  obtain ⟨A1, cp1, hv1, g2, g3, g4, g5⟩ := hT1
  obtain ⟨m1, hm1⟩ : ∃ m, m = rows2.length := ⟨_, rfl⟩
  rw [← hm1] at hv1
  subst hv1
  clear hb1 P1 P0 g4 g5 hm1 g2 g3
  simp only at *
  have P2 := Lib.hid (PgBox.new w1 k2 l2 i2 s2 n2 (.slice A1 m1 cp1))
  have BP := Lib.hid (alloc_below w1 (.cells #[.int .u8 k2, .int .u8 l2, .int .u32 i2, .int .u64 s2, .int .u32 n2, .slice A1 m1 cp1] 45))
  by_cases he : e2 = 0
  · subst he
    have CM2 := Lib.hid (CM.out rfl (.slice A1 m1 cp1))
    have G2 := Lib.hid (R2.out rfl)
    have G3 := Lib.hid (R3.out rfl)
    clear R1 CM R2 R3
    go_wp2_with fail
    refine (CM2.out _ (HT1.out.below BP.out)).mono ?_
    rintro e w3 ⟨rfl, hb3⟩
    have B3 := Lib.hid (below_then B1.out (below_then BP.out hb3))
    have Q3 := Lib.hid ((Q1.out.below BP.out).below hb3)
    have Q2 := Lib.hid (P2.out.below hb3)
    have HT3 := Lib.hid ((HT1.out.below BP.out).below hb3)
    clear hb3 HT1 Q1 P2 BP
    cases M with
    | false =>
      have HR := Lib.hid (G2.out rfl)
      obtain ⟨y0, y1, y2, y3, y4, y5, y6⟩ := Q3.out.cells
      obtain ⟨f0, f1, f2, f3, f4, f5⟩ := Q3.out.fr
      have XB := Lib.hid (Q3.out.put 0 0 0 0 0 (.slice none 0 0))
      have XK := Lib.hid (OthersKept.below B3.out (setPg_kept w3 (w.heap.size + 1) 0 0 0 0 0 (.slice none 0 0)) (fun k hk e => by omega))
      go_wp2_with fail
      refine bodyPost_ret (v := .tuple #[.agg #[.int .u8 (0 : Nat), .int .u8 (0 : Nat), .int .u32 (0 : Nat), .int .u64 (0 : Nat), .int .u32 (0 : Nat), .slice none 0 0], .int .i64 4]) (results_pg (p := 8) (u := 9) (by kernel_rfl) _ _ rfl XB.out) rfl ?_
      exact PgPost.no HR.out XK.out
    | true =>
      have HR := Lib.hid (G3.out rfl)
      obtain ⟨x0, x1, x2, x3, x4, x5, x6⟩ := Q2.out.cells
      obtain ⟨y0, y1, y2, y3, y4, y5, y6⟩ := Q3.out.cells
      obtain ⟨f0, f1, f2, f3, f4, f5⟩ := Q3.out.fr
      have XB := Lib.hid (Q3.out.put k2 l2 i2 s2 n2 (.slice A1 m1 cp1))
      have hk6 := setPg_kept w3 (w.heap.size + 1) k2 l2 i2 s2 n2 (.slice A1 m1 cp1)
      have XK := Lib.hid (OthersKept.below B3.out hk6 (fun k hk e => by omega))
      have XO := Lib.hid (HT3.out.off_pg Q3.out (fun s h => by cases h) hk6)
      clear hk6
      go_wp2_with fail
      refine bodyPost_ret (v := .tuple #[.agg #[.int .u8 k2, .int .u8 l2, .int .u32 i2, .int .u64 s2, .int .u32 n2, .slice A1 m1 cp1], .int .i64 0]) (results_pg (p := 8) (u := 9) (by kernel_rfl) _ _ rfl XB.out) rfl ?_
      exact ⟨.slice A1 m1 cp1, by have h := HR.out; subst h; rfl, by have h := HR.out; subst h; exact XO.out, XK.out⟩
  · have a1 : (e2 != 0) = true := by simpa using he
    have HR := Lib.hid (R1.out he)
    have Q3 := Lib.hid (Q1.out.below BP.out)
    have B3 := Lib.hid (below_then B1.out BP.out)
    clear Q1 P2 BP
    go_upto_region 3 with fail
    generalize w1.alloc (.cells #[.int .u8 k2, .int .u8 l2, .int .u32 i2, .int .u64 s2, .int .u32 n2, .slice A1 m1 cp1] 45) = w2 at *
    obtain ⟨y0, y1, y2, y3, y4, y5, y6⟩ := Q3.out.cells
    obtain ⟨f0, f1, f2, f3, f4, f5⟩ := Q3.out.fr
    have XB := Lib.hid (Q3.out.put 0 0 0 0 0 (.slice none 0 0))
    have XK := Lib.hid (OthersKept.below B3.out (setPg_kept w2 (w.heap.size + 1) 0 0 0 0 0 (.slice none 0 0)) (fun k hk e => by omega))
    go_wp2_with fail
    refine bodyPost_ret (v := .tuple #[.agg #[.int .u8 (0 : Nat), .int .u8 (0 : Nat), .int .u32 (0 : Nat), .int .u64 (0 : Nat), .int .u32 (0 : Nat), .slice none 0 0], .int .i64 e2]) (results_pg (p := 8) (u := 9) (by kernel_rfl) _ _ rfl XB.out) rfl ?_
    exact PgPost.no HR.out XK.out

set_option maxHeartbeats 4000000 in
set_option maxRecDepth 100000 in
theorem refWith_any (p : Pg) (sv : Value) (i : Int) (x : List UInt8) (is : Bool) (w : World) (hp : p.wf) (ht : TextsAt w sv p.rows) (hb : weightB p.rows + (4 + x.length) ≤ 1000000) (hi0 : -9223372036854775808 ≤ i) (hi1 : i ≤ 9223372036854775807) :
    Calls Try.prog 55 #[pgV p sv, .int .i64 i, .string ⟨x.toArray⟩, .bool is] w (PgPost w (withB p i x is)) := by
  have CW := Lib.hid fun W (h : TextsAt W sv p.rows) => refPut_any p sv i x is W hp h hb hi0 hi1
  have HT := Lib.hid ht
  have R1 : Hid (¬ (putB p i x is).2 = 0 → withB p i x is = (Pg.zero, (putB p i x is).2)) := fun h => by unfold withB; rw [if_neg h]
  have R2 : Hid ((putB p i x is).2 = 0 → (putB p i x is).1.may = false → withB p i x is = (Pg.zero, 4)) := fun h h2 => by unfold withB; rw [if_pos h, if_neg (by rw [h2]; simp)]
  have R3 : Hid ((putB p i x is).2 = 0 → (putB p i x is).1.may = true → withB p i x is = ((putB p i x is).1, 0)) := fun h h2 => by unfold withB; rw [if_pos h, if_pos h2]
  have CM : Hid ((putB p i x is).2 = 0 → ∀ sv' W, TextsAt W sv' (putB p i x is).1.rows → Calls Try.prog 33 #[pgV (putB p i x is).1 sv'] W fun e w' => e = .returned (.bool (putB p i x is).1.may) ∧ Below W.heap.size W w') := fun h sv' W hT => by
    have hq := (putB_ok h).2.2.2
    refine refMay06_any (putB p i x is).1 sv' W ?_ hT ?_
    · rw [hq]; exact hp
    · rw [hq]; have := putRows_weight p.rows i.toNat x is; show weightB (putRows p.rows i.toNat x is) ≤ _; omega
  generalize withB p i x is = R at *
  generalize (putB p i x is) = Q at *
  obtain ⟨⟨k2, l2, i2, s2, n2, rows2⟩, e2⟩ := Q
  generalize hM : Pg.may ⟨k2, l2, i2, s2, n2, rows2⟩ = M at *
  clear hM
  unfold pgV at *
  obtain ⟨kind, level, id, lsn, next, rows⟩ := p
  clear hp hb ht
  simp only at *
  have P1 := Lib.hid (PgBox.new (w.alloc (.cells #[.int .u8 kind, .int .u8 level, .int .u32 id, .int .u64 lsn, .int .u32 next, sv] 45)) 0 0 0 0 0 (.slice none 0 0))
  have hz1 : (w.alloc (.cells #[.int .u8 kind, .int .u8 level, .int .u32 id, .int .u64 lsn, .int .u32 next, sv] 45)).heap.size = w.heap.size + 1 := by simp
  rw [hz1] at P1
  clear hz1
  have P0 := Lib.hid ((PgBox.new w kind level id lsn next sv).keep (.cells #[.int .u8 0, .int .u8 0, .int .u32 0, .int .u64 0, .int .u32 0, .slice none 0 0] 45))
  have B0 := Lib.hid ((alloc_below w (.cells #[.int .u8 kind, .int .u8 level, .int .u32 id, .int .u64 lsn, .int .u32 next, sv] 45)).alloc (by simp) (.cells #[.int .u8 0, .int .u8 0, .int .u32 0, .int .u64 0, .int .u32 0, .slice none 0 0] 45))
  go_enter Try.func55, Try.ntmps55
  go_wp2_with fail
  generalize (w.alloc (.cells #[.int .u8 kind, .int .u8 level, .int .u32 id, .int .u64 lsn, .int .u32 next, sv] 45)).alloc (.cells #[.int .u8 0, .int .u8 0, .int .u32 0, .int .u64 0, .int .u32 0, .slice none 0 0] 45) = w0 at *
  have T0 := Lib.hid (HT.out.below B0.out)
  refine (CW.out _ T0.out).mono ?_
  rintro e w1 ⟨sv1, rfl, hT1, hb1⟩
  have B1 := Lib.hid (below_then B0.out hb1)
  have Q1 := Lib.hid (P1.out.below hb1)
  have hs1 := Q1.out.lt
  unfold pgV at *
  have HT1 := Lib.hid hT1
  obtain ⟨A1, cp1, hv1, g2, g3, g4, g5⟩ := hT1
  obtain ⟨m1, hm1⟩ : ∃ m, m = rows2.length := ⟨_, rfl⟩
  rw [← hm1] at hv1
  subst hv1
  clear hb1 P1 P0 g4 g5 hm1 g2 g3
  simp only at *
  have P2 := Lib.hid (PgBox.new w1 k2 l2 i2 s2 n2 (.slice A1 m1 cp1))
  have BP := Lib.hid (alloc_below w1 (.cells #[.int .u8 k2, .int .u8 l2, .int .u32 i2, .int .u64 s2, .int .u32 n2, .slice A1 m1 cp1] 45))
  by_cases he : e2 = 0
  · subst he
    have CM2 := Lib.hid (CM.out rfl (.slice A1 m1 cp1))
    have G2 := Lib.hid (R2.out rfl)
    have G3 := Lib.hid (R3.out rfl)
    clear R1 CM R2 R3
    go_wp2_with fail
    refine (CM2.out _ (HT1.out.below BP.out)).mono ?_
    rintro e w3 ⟨rfl, hb3⟩
    have B3 := Lib.hid (below_then B1.out (below_then BP.out hb3))
    have Q3 := Lib.hid ((Q1.out.below BP.out).below hb3)
    have Q2 := Lib.hid (P2.out.below hb3)
    have HT3 := Lib.hid ((HT1.out.below BP.out).below hb3)
    clear hb3 HT1 Q1 P2 BP
    cases M with
    | false =>
      have HR := Lib.hid (G2.out rfl)
      obtain ⟨y0, y1, y2, y3, y4, y5, y6⟩ := Q3.out.cells
      obtain ⟨f0, f1, f2, f3, f4, f5⟩ := Q3.out.fr
      have XB := Lib.hid (Q3.out.put 0 0 0 0 0 (.slice none 0 0))
      have XK := Lib.hid (OthersKept.below B3.out (setPg_kept w3 (w.heap.size + 1) 0 0 0 0 0 (.slice none 0 0)) (fun k hk e => by omega))
      go_wp2_with fail
      refine bodyPost_ret (v := .tuple #[.agg #[.int .u8 (0 : Nat), .int .u8 (0 : Nat), .int .u32 (0 : Nat), .int .u64 (0 : Nat), .int .u32 (0 : Nat), .slice none 0 0], .int .i64 4]) (results_pg (p := 8) (u := 9) (by kernel_rfl) _ _ rfl XB.out) rfl ?_
      exact PgPost.no HR.out XK.out
    | true =>
      have HR := Lib.hid (G3.out rfl)
      obtain ⟨x0, x1, x2, x3, x4, x5, x6⟩ := Q2.out.cells
      obtain ⟨y0, y1, y2, y3, y4, y5, y6⟩ := Q3.out.cells
      obtain ⟨f0, f1, f2, f3, f4, f5⟩ := Q3.out.fr
      have XB := Lib.hid (Q3.out.put k2 l2 i2 s2 n2 (.slice A1 m1 cp1))
      have hk6 := setPg_kept w3 (w.heap.size + 1) k2 l2 i2 s2 n2 (.slice A1 m1 cp1)
      have XK := Lib.hid (OthersKept.below B3.out hk6 (fun k hk e => by omega))
      have XO := Lib.hid (HT3.out.off_pg Q3.out (fun s h => by cases h) hk6)
      clear hk6
      go_wp2_with fail
      refine bodyPost_ret (v := .tuple #[.agg #[.int .u8 k2, .int .u8 l2, .int .u32 i2, .int .u64 s2, .int .u32 n2, .slice A1 m1 cp1], .int .i64 0]) (results_pg (p := 8) (u := 9) (by kernel_rfl) _ _ rfl XB.out) rfl ?_
      exact ⟨.slice A1 m1 cp1, by have h := HR.out; subst h; rfl, by have h := HR.out; subst h; exact XO.out, XK.out⟩
  · have a1 : (e2 != 0) = true := by simpa using he
    have HR := Lib.hid (R1.out he)
    have Q3 := Lib.hid (Q1.out.below BP.out)
    have B3 := Lib.hid (below_then B1.out BP.out)
    clear Q1 P2 BP
    go_upto_region 3 with fail
    generalize w1.alloc (.cells #[.int .u8 k2, .int .u8 l2, .int .u32 i2, .int .u64 s2, .int .u32 n2, .slice A1 m1 cp1] 45) = w2 at *
    obtain ⟨y0, y1, y2, y3, y4, y5, y6⟩ := Q3.out.cells
    obtain ⟨f0, f1, f2, f3, f4, f5⟩ := Q3.out.fr
    have XB := Lib.hid (Q3.out.put 0 0 0 0 0 (.slice none 0 0))
    have XK := Lib.hid (OthersKept.below B3.out (setPg_kept w2 (w.heap.size + 1) 0 0 0 0 0 (.slice none 0 0)) (fun k hk e => by omega))
    go_wp2_with fail
    refine bodyPost_ret (v := .tuple #[.agg #[.int .u8 (0 : Nat), .int .u8 (0 : Nat), .int .u32 (0 : Nat), .int .u64 (0 : Nat), .int .u32 (0 : Nat), .slice none 0 0], .int .i64 e2]) (results_pg (p := 8) (u := 9) (by kernel_rfl) _ _ rfl XB.out) rfl ?_
    exact PgPost.no HR.out XK.out

end Go.Proofs.Ytjcfnfpilladfaa
