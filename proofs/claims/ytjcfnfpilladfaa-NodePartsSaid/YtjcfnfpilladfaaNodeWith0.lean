/- chapter 08: with a text at a place -/
import Derived.Test.YtjcfnfpilladfaaRows
import Derived.Test.YtjcfnfpilladfaaTextsP
import Derived.Test.YtjcfnfpilladfaaPlains
import Derived.Test.YtjcfnfpilladfaaTextsMove
import Derived.Test.YtjcfnfpilladfaaNodeChild
import Derived.WalkKit
import Derived.WalkLawsBesides
import Derived.WalkSpells
import Derived.LoopTactic
import Derived.WalkMore
import Derived.LoopN
import Derived.Laws.BitsAllLaws
import Derived.Laws.IdiomStrings
import Derived.BigQuiet
import Derived.Deep.QuietTactic
import Derived.Deep.DeepCutAuto
import Derived.Deep.RegionHeld3
import Derived.Deep.DrawnRows
import Derived.Lib.Hide
import Derived.Outline
import Derived.Deep.DeepMust
import Derived.Handy
namespace Go.Proofs.Ytjcfnfpilladfaa
open Go.RowKit
set_option linter.unusedVariables false
set_option linter.unusedSimpArgs false

set_option maxHeartbeats 4000000 in
set_option maxRecDepth 100000 in
theorem nodeWith0_any (p : Pg) (sv : Value) (i : Int) (x : List UInt8) (is : Bool) (w : World) (hp : p.wf) (ht : TextsAt w sv p.rows) (hb : weightB p.rows + (4 + x.length) ≤ 1000000) (hi0 : -9223372036854775808 ≤ i) (hi1 : i ≤ 9223372036854775807) :
    Calls Try.prog 74 #[pgV p sv, .int .i64 i, .string ⟨x.toArray⟩, .bool is] w (PgPost w (putB p i x is)) := by
  have CK := Lib.hid fun W (h : TextsAt W sv p.rows) => nodeCheck_any p sv W hp h (by omega)
  have CS := Lib.hid fun sv' W (h : TextsAt W sv' (putRows p.rows i.toNat x is)) => nodeKeys_any (p.with (putRows p.rows i.toNat x is)) sv' W hp h (by have := putRows_weight p.rows i.toNat x is; show weightB (putRows p.rows i.toNat x is) ≤ _; omega)
  have HT := Lib.hid ht
  have hnb : p.rows.length ≤ 1000000 := by have := weightB_length p.rows; omega
  have CC := Lib.hid fun W (h : TextsAt W sv p.rows) => cloneTexts_any sv p.rows W h hnb
  obtain ⟨n, hn⟩ : ∃ n, n = p.rows.length := ⟨_, rfl⟩
  obtain ⟨A, cp, hsv, h2, h3, h4, h5⟩ := ht
  rw [← hn] at hsv h2 hnb
  subst hsv
  have R1 : Hid (checkB p = false → putB p i x is = (Pg.zero, 7)) := fun h => by unfold putB; rw [h]; rfl
  have R2 : Hid (checkB p = true → placeOk n i is = false → putB p i x is = (Pg.zero, 2)) := fun h h0 => by unfold putB; rw [if_pos h, ← hn, h0]; rfl
  have R3 : Hid (checkB p = true → placeOk n i is = true → keysB (p.with (putRows p.rows i.toNat x is)) = none → putB p i x is = (Pg.zero, 7)) := fun h h0 h1 => by unfold putB; rw [if_pos h, ← hn, h0, h1]; rfl
  have R4 : Hid (checkB p = true → placeOk n i is = true → ∀ ks, keysB (p.with (putRows p.rows i.toNat x is)) = some ks → putB p i x is = (p.with (putRows p.rows i.toNat x is), 0)) := fun h h0 ks h1 => by unfold putB; rw [if_pos h, ← hn, h0, h1]; rfl
  generalize hc : checkB p = c at *
  generalize putB p i x is = R at *
  generalize keysB (p.with (putRows p.rows i.toNat x is)) = K at *
  clear hc h4 h5
  unfold pgV Pg.with at *
  obtain ⟨kind, level, id, lsn, next, rows⟩ := p
  clear hp hb
  have HN := Lib.hid hn
  clear hn
  simp only at *
  unfold maxLen at h3
  have P0 := Lib.hid ((PgBox.new w kind level id lsn next (.slice A n cp)).keep (.cells #[.int .u8 0, .int .u8 0, .int .u32 0, .int .u64 0, .int .u32 0, .slice none 0 0] 45))
  have P1 := Lib.hid (PgBox.new (w.alloc (.cells #[.int .u8 kind, .int .u8 level, .int .u32 id, .int .u64 lsn, .int .u32 next, .slice A n cp] 45)) 0 0 0 0 0 (.slice none 0 0))
  have hz1 : (w.alloc (.cells #[.int .u8 kind, .int .u8 level, .int .u32 id, .int .u64 lsn, .int .u32 next, .slice A n cp] 45)).heap.size = w.heap.size + 1 := by simp
  rw [hz1] at P1
  clear hz1
  have B0 := Lib.hid ((alloc_below w (.cells #[.int .u8 kind, .int .u8 level, .int .u32 id, .int .u64 lsn, .int .u32 next, .slice A n cp] 45)).alloc (by simp) (.cells #[.int .u8 0, .int .u8 0, .int .u32 0, .int .u64 0, .int .u32 0, .slice none 0 0] 45))
  go_enter Try.func74, Try.ntmps74
  go_wp2_with fail
  generalize (w.alloc (.cells #[.int .u8 kind, .int .u8 level, .int .u32 id, .int .u64 lsn, .int .u32 next, .slice A n cp] 45)).alloc (.cells #[.int .u8 0, .int .u8 0, .int .u32 0, .int .u64 0, .int .u32 0, .slice none 0 0] 45) = w0 at *
  have T0 := Lib.hid (HT.out.below B0.out)
  refine (CK.out _ T0.out).mono ?_
  rintro e w1 ⟨rfl, hb1⟩
  have B1 := Lib.hid (below_then B0.out hb1)
  have T1 := Lib.hid (T0.out.below hb1)
  have Q0 := Lib.hid (P0.out.below hb1)
  have Q1 := Lib.hid (P1.out.below hb1)
  obtain ⟨x0, x1, x2, x3, x4, x5, x6⟩ := Q0.out.cells
  clear hb1 P0 P1
  cases c with
  | false =>
    have HR := Lib.hid (R1.out rfl)
    unfold chkN
    obtain ⟨y0, y1, y2, y3, y4, y5, y6⟩ := Q1.out.cells
    obtain ⟨f0, f1, f2, f3, f4, f5⟩ := Q1.out.fr
    have XB := Lib.hid (Q1.out.put 0 0 0 0 0 (.slice none 0 0))
    have XK := Lib.hid (OthersKept.below B1.out (setPg_kept w1 (w.heap.size + 1) 0 0 0 0 0 (.slice none 0 0)) (fun k hk e => by omega))
    go_wp2_with fail
    refine bodyPost_ret (v := .tuple #[.agg #[.int .u8 (0 : Nat), .int .u8 (0 : Nat), .int .u32 (0 : Nat), .int .u64 (0 : Nat), .int .u32 (0 : Nat), .slice none 0 0], .int .i64 7]) (results_pg (p := 8) (u := 9) (by kernel_rfl) _ _ rfl XB.out) rfl ?_
    exact PgPost.no HR.out XK.out
  | true =>
    unfold chkN
    cases hpl : placeOk n i is with
    | false =>
      have HR := Lib.hid (R2.out rfl hpl)
      have hbad : i < 0 ∨ (n : Int) < i ∨ (is = true ∧ i = n) := by
        have h := hpl
        unfold placeOk at h
        rw [decide_eq_false_iff_not] at h
        rcases Int.lt_or_le i 0 with h1 | h1
        · exact .inl h1
        · rcases Int.lt_or_le (n : Int) i with h2 | h2
          · exact .inr (.inl h2)
          · exact .inr (.inr (Classical.byContradiction fun h3 => h ⟨h1, h2, h3⟩))
      clear hpl
      rcases Int.lt_or_le i 0 with ha | ha
      · obtain ⟨y0, y1, y2, y3, y4, y5, y6⟩ := Q1.out.cells
        obtain ⟨f0, f1, f2, f3, f4, f5⟩ := Q1.out.fr
        have XB := Lib.hid (Q1.out.put 0 0 0 0 0 (.slice none 0 0))
        have XK := Lib.hid (OthersKept.below B1.out (setPg_kept w1 (w.heap.size + 1) 0 0 0 0 0 (.slice none 0 0)) (fun k hk e => by omega))
        go_wp2_with fail
        refine bodyPost_ret (v := .tuple #[.agg #[.int .u8 (0 : Nat), .int .u8 (0 : Nat), .int .u32 (0 : Nat), .int .u64 (0 : Nat), .int .u32 (0 : Nat), .slice none 0 0], .int .i64 2]) (results_pg (p := 8) (u := 9) (by kernel_rfl) _ _ rfl XB.out) rfl ?_
        exact PgPost.no HR.out XK.out
      · rcases Int.lt_or_le (n : Int) i with hd | hd
        · obtain ⟨y0, y1, y2, y3, y4, y5, y6⟩ := Q1.out.cells
          obtain ⟨f0, f1, f2, f3, f4, f5⟩ := Q1.out.fr
          have XB := Lib.hid (Q1.out.put 0 0 0 0 0 (.slice none 0 0))
          have XK := Lib.hid (OthersKept.below B1.out (setPg_kept w1 (w.heap.size + 1) 0 0 0 0 0 (.slice none 0 0)) (fun k hk e => by omega))
          go_wp2_with fail
          refine bodyPost_ret (v := .tuple #[.agg #[.int .u8 (0 : Nat), .int .u8 (0 : Nat), .int .u32 (0 : Nat), .int .u64 (0 : Nat), .int .u32 (0 : Nat), .slice none 0 0], .int .i64 2]) (results_pg (p := 8) (u := 9) (by kernel_rfl) _ _ rfl XB.out) rfl ?_
          exact PgPost.no HR.out XK.out
        · obtain ⟨rfl, hin⟩ : is = true ∧ i = n := by rcases hbad with h | h | h <;> first | exact h | omega
          have hd1 : ¬ i < 0 := by omega
          have hd2 : ¬ (n : Int) < i := by omega
          have hd3 : (i == (n : Int)) = true := by simp; omega
          clear hbad ha hd
          obtain ⟨y0, y1, y2, y3, y4, y5, y6⟩ := Q1.out.cells
          obtain ⟨f0, f1, f2, f3, f4, f5⟩ := Q1.out.fr
          have XB := Lib.hid (Q1.out.put 0 0 0 0 0 (.slice none 0 0))
          have XK := Lib.hid (OthersKept.below B1.out (setPg_kept w1 (w.heap.size + 1) 0 0 0 0 0 (.slice none 0 0)) (fun k hk e => by omega))
          go_wp2_with fail
          refine bodyPost_ret (v := .tuple #[.agg #[.int .u8 (0 : Nat), .int .u8 (0 : Nat), .int .u32 (0 : Nat), .int .u64 (0 : Nat), .int .u32 (0 : Nat), .slice none 0 0], .int .i64 2]) (results_pg (p := 8) (u := 9) (by kernel_rfl) _ _ rfl XB.out) rfl ?_
          exact PgPost.no HR.out XK.out
    | true =>
      rw [placeOk_iff] at hpl
      obtain ⟨ha, hb, hc⟩ := hpl
      have hpl : placeOk n i is = true := placeOk_iff.2 ⟨ha, hb, hc⟩
      have G3 := Lib.hid (R3.out rfl hpl)
      have G4 := Lib.hid (R4.out rfl hpl)
      obtain ⟨k, rfl⟩ : ∃ k : Nat, i = k := ⟨i.toNat, by omega⟩
      have hkn : k ≤ n := by omega
      clear hpl
      rw [show (k : Int).toNat = k by omega] at CS G4
      have q0 : ¬ (k : Int) < 0 := by omega
      have q1 : ¬ (n : Int) < (k : Int) := by omega
      have q2 : is = true → ((k : Int) == (n : Int)) = false := fun h => by have h9 : ¬ (k : Int) = (n : Int) := fun e => hc ⟨h, e⟩; simp; omega
      have q3 : is = true → k < n := fun h => by have h9 : ¬ (k : Int) = (n : Int) := fun e => hc ⟨h, e⟩; omega
      clear hc ha hb
      cases is with
      | false =>
        go_wp2_with fail
        refine (CC.out _ T1.out).mono ?_
        rintro e w2 ⟨v, rfl, ho2, hb2⟩
        have O2 := Lib.hid ho2
        have B2 := Lib.hid (below_then B1.out hb2)
        have P0 := Lib.hid (Q0.out.below hb2)
        have P1 := Lib.hid (Q1.out.below hb2)
        have hs1 := x0
        have hs2 := hb2.size
        have hs11 := Q1.out.lt
        clear ho2 hb2 Q0 Q1 x0 x1 x2 x3 x4 x5 x6
        obtain ⟨x0, x1, x2, x3, x4, x5, x6⟩ := P0.out.cells
        have CR := Lib.hid (replIns_any v rows x w1.heap.size k w2.heap.size (w2.alloc (.cells #[.string ⟨x.toArray⟩] 9)) (O2.out.alloc _) (heap_alloc_new w2 _) (fun j hj => by have := (O2.out.lt j hj).2; omega) (by rw [← HN.out]; omega) (by rw [← HN.out]; exact hnb) (by simp; omega))
        go_wp2_with fail
        refine CR.out.mono ?_
        rintro e w3 ⟨v', rfl, ho3, hg3⟩
        have B3 := Lib.hid ((B2.out.alloc (by omega) (.cells #[.string ⟨x.toArray⟩] 9)).grown hg3 (by simp; omega) (fun j hj => by have := (O2.out.lt j hj).1; omega))
        have O3 : Hid (w3.ownsRow w1.heap.size 9 1 v' (putRows rows k x false).length (strs (putRows rows k x false))) := by
          show World.ownsRow _ _ _ _ _ _ _
          have hl : (putRows rows k x false).length = rows.length + 1 := by unfold putRows; have := HN.out; simp; omega
          rw [hl]
          exact ho3
        obtain ⟨m3, hm3⟩ : ∃ m, m = (putRows rows k x false).length := ⟨_, rfl⟩
        obtain ⟨b3, c3, hv3, _, _, _⟩ := own_form O3.out
        rw [← hm3] at hv3
        clear hm3
        subst hv3
        have Q0 := Lib.hid ((P0.out.keep _).grown hg3 (fun h => by have := (O2.out.lt _ h.symm).1; omega))
        have Q1 := Lib.hid ((P1.out.keep _).grown hg3 (fun h => by have := (O2.out.lt _ h.symm).1; omega))
        have hs3 : w1.heap.size ≤ w3.heap.size := by have := hg3.size; simp at this; omega
        clear ho3 hg3 P0 P1 x0 x1 x2 x3 x4 x5 x6 CR
        obtain ⟨x0, x1, x2, x3, x4, x5, x6⟩ := Q0.out.cells
        obtain ⟨f0, f1, f2, f3, f4, f5⟩ := Q0.out.fr
        have B4 := Lib.hid (OthersKept.below B3.out (one_kept w3 w.heap.size 5 (.slice b3 m3 c3)) (fun j hj e => by omega))
        have O4 := Lib.hid (own_set_far (g := w.heap.size) (i := 5) (u := .slice b3 m3 c3) O3.out (fun j hj => by have := (O3.out.lt j hj).1; omega))
        have P0 := Lib.hid (Q0.out.set5 (.slice b3 m3 c3))
        have P1 := Lib.hid (Q1.out.kept (one_kept w3 w.heap.size 5 (.slice b3 m3 c3)) (by omega))
        clear Q0 Q1 O3
        go_wp2_with fail
        generalize w3.setCell ⟨w.heap.size, 5, none⟩ (.slice b3 m3 c3) = w4 at *
        refine (CS.out (.slice b3 m3 c3) _ (texts_own O4.out).1).mono ?_
        rintro e w5 ⟨v5, rfl, _, hb5⟩
        have B5 := Lib.hid (below_then B4.out hb5)
        have O5 := Lib.hid (own_below O4.out hb5)
        have Q0 := Lib.hid (P0.out.below hb5)
        have Q1 := Lib.hid (P1.out.below hb5)
        clear hb5 P0 P1 x0 x1 x2 x3 x4 x5 x6 f0 f1 f2 f3 f4 f5
        cases K with
        | none =>
          have HR := Lib.hid (G3.out rfl)
          obtain ⟨y0, y1, y2, y3, y4, y5, y6⟩ := Q1.out.cells
          obtain ⟨f0, f1, f2, f3, f4, f5⟩ := Q1.out.fr
          have XB := Lib.hid (Q1.out.put 0 0 0 0 0 (.slice none 0 0))
          have XK := Lib.hid (OthersKept.below B5.out (setPg_kept w5 (w.heap.size + 1) 0 0 0 0 0 (.slice none 0 0)) (fun k hk e => by omega))
          go_wp2_with fail
          refine bodyPost_ret (v := .tuple #[.agg #[.int .u8 (0 : Nat), .int .u8 (0 : Nat), .int .u32 (0 : Nat), .int .u64 (0 : Nat), .int .u32 (0 : Nat), .slice none 0 0], .int .i64 7]) (results_pg (p := 8) (u := 9) (by kernel_rfl) _ _ rfl XB.out) rfl ?_
          exact PgPost.no HR.out XK.out
        | some ks =>
          have HR := Lib.hid (G4.out ks rfl)
          obtain ⟨x0, x1, x2, x3, x4, x5, x6⟩ := Q0.out.cells
          obtain ⟨y0, y1, y2, y3, y4, y5, y6⟩ := Q1.out.cells
          obtain ⟨f0, f1, f2, f3, f4, f5⟩ := Q1.out.fr
          have XB := Lib.hid (Q1.out.put kind level id lsn next (.slice b3 m3 c3))
          have hk6 := setPg_kept w5 (w.heap.size + 1) kind level id lsn next (.slice b3 m3 c3)
          have XK := Lib.hid (OthersKept.below B5.out hk6 (fun k hk e => by omega))
          have XO := Lib.hid (texts_own (hk6.owns O5.out (fun j hj e => by have := (O5.out.lt j hj).1; omega))).1
          clear hk6
          go_wp2_with fail
          refine bodyPost_ret (v := .tuple #[.agg #[.int .u8 kind, .int .u8 level, .int .u32 id, .int .u64 lsn, .int .u32 next, .slice b3 m3 c3], .int .i64 0]) (results_pg (p := 8) (u := 9) (by kernel_rfl) _ _ rfl XB.out) rfl ?_
          exact ⟨.slice b3 m3 c3, by have h := HR.out; subst h; rfl, by have h := HR.out; subst h; exact XO.out, XK.out⟩
      | true =>
        have q2 := q2 rfl
        have q3 := q3 rfl
        go_wp2_with fail
        refine (CC.out _ T1.out).mono ?_
        rintro e w2 ⟨v, rfl, ho2, hb2⟩
        have O2 := Lib.hid ho2
        have B2 := Lib.hid (below_then B1.out hb2)
        have P0 := Lib.hid (Q0.out.below hb2)
        have P1 := Lib.hid (Q1.out.below hb2)
        have hs1 := x0
        have hs2 := hb2.size
        have hs11 := Q1.out.lt
        clear ho2 hb2 Q0 Q1 x0 x1 x2 x3 x4 x5 x6
        obtain ⟨x0, x1, x2, x3, x4, x5, x6⟩ := P0.out.cells
        have CR := Lib.hid (replSet_any v rows x w1.heap.size k w2.heap.size (w2.alloc (.cells #[.string ⟨x.toArray⟩] 9)) (O2.out.alloc _) (heap_alloc_new w2 _) (fun j hj => by have := (O2.out.lt j hj).2; omega) (by rw [← HN.out]; omega) (by rw [← HN.out]; exact hnb) (by simp; omega))
        go_wp2_with fail
        refine CR.out.mono ?_
        rintro e w3 ⟨v', rfl, ho3, hg3⟩
        have B3 := Lib.hid ((B2.out.alloc (by omega) (.cells #[.string ⟨x.toArray⟩] 9)).grown hg3 (by simp; omega) (fun j hj => by have := (O2.out.lt j hj).1; omega))
        have O3 : Hid (w3.ownsRow w1.heap.size 9 1 v' (putRows rows k x true).length (strs (putRows rows k x true))) := by
          show World.ownsRow _ _ _ _ _ _ _
          have hl : (putRows rows k x true).length = rows.length := by unfold putRows; have := HN.out; simp; omega
          rw [hl]
          exact ho3
        obtain ⟨m3, hm3⟩ : ∃ m, m = (putRows rows k x true).length := ⟨_, rfl⟩
        obtain ⟨b3, c3, hv3, _, _, _⟩ := own_form O3.out
        rw [← hm3] at hv3
        clear hm3
        subst hv3
        have Q0 := Lib.hid ((P0.out.keep _).grown hg3 (fun h => by have := (O2.out.lt _ h.symm).1; omega))
        have Q1 := Lib.hid ((P1.out.keep _).grown hg3 (fun h => by have := (O2.out.lt _ h.symm).1; omega))
        have hs3 : w1.heap.size ≤ w3.heap.size := by have := hg3.size; simp at this; omega
        clear ho3 hg3 P0 P1 x0 x1 x2 x3 x4 x5 x6 CR
        obtain ⟨x0, x1, x2, x3, x4, x5, x6⟩ := Q0.out.cells
        obtain ⟨f0, f1, f2, f3, f4, f5⟩ := Q0.out.fr
        have B4 := Lib.hid (OthersKept.below B3.out (one_kept w3 w.heap.size 5 (.slice b3 m3 c3)) (fun j hj e => by omega))
        have O4 := Lib.hid (own_set_far (g := w.heap.size) (i := 5) (u := .slice b3 m3 c3) O3.out (fun j hj => by have := (O3.out.lt j hj).1; omega))
        have P0 := Lib.hid (Q0.out.set5 (.slice b3 m3 c3))
        have P1 := Lib.hid (Q1.out.kept (one_kept w3 w.heap.size 5 (.slice b3 m3 c3)) (by omega))
        clear Q0 Q1 O3
        go_wp2_with fail
        generalize w3.setCell ⟨w.heap.size, 5, none⟩ (.slice b3 m3 c3) = w4 at *
        refine (CS.out (.slice b3 m3 c3) _ (texts_own O4.out).1).mono ?_
        rintro e w5 ⟨v5, rfl, _, hb5⟩
        have B5 := Lib.hid (below_then B4.out hb5)
        have O5 := Lib.hid (own_below O4.out hb5)
        have Q0 := Lib.hid (P0.out.below hb5)
        have Q1 := Lib.hid (P1.out.below hb5)
        clear hb5 P0 P1 x0 x1 x2 x3 x4 x5 x6 f0 f1 f2 f3 f4 f5
        cases K with
        | none =>
          have HR := Lib.hid (G3.out rfl)
          obtain ⟨y0, y1, y2, y3, y4, y5, y6⟩ := Q1.out.cells
          obtain ⟨f0, f1, f2, f3, f4, f5⟩ := Q1.out.fr
          have XB := Lib.hid (Q1.out.put 0 0 0 0 0 (.slice none 0 0))
          have XK := Lib.hid (OthersKept.below B5.out (setPg_kept w5 (w.heap.size + 1) 0 0 0 0 0 (.slice none 0 0)) (fun k hk e => by omega))
          go_wp2_with fail
          refine bodyPost_ret (v := .tuple #[.agg #[.int .u8 (0 : Nat), .int .u8 (0 : Nat), .int .u32 (0 : Nat), .int .u64 (0 : Nat), .int .u32 (0 : Nat), .slice none 0 0], .int .i64 7]) (results_pg (p := 8) (u := 9) (by kernel_rfl) _ _ rfl XB.out) rfl ?_
          exact PgPost.no HR.out XK.out
        | some ks =>
          have HR := Lib.hid (G4.out ks rfl)
          obtain ⟨x0, x1, x2, x3, x4, x5, x6⟩ := Q0.out.cells
          obtain ⟨y0, y1, y2, y3, y4, y5, y6⟩ := Q1.out.cells
          obtain ⟨f0, f1, f2, f3, f4, f5⟩ := Q1.out.fr
          have XB := Lib.hid (Q1.out.put kind level id lsn next (.slice b3 m3 c3))
          have hk6 := setPg_kept w5 (w.heap.size + 1) kind level id lsn next (.slice b3 m3 c3)
          have XK := Lib.hid (OthersKept.below B5.out hk6 (fun k hk e => by omega))
          have XO := Lib.hid (texts_own (hk6.owns O5.out (fun j hj e => by have := (O5.out.lt j hj).1; omega))).1
          clear hk6
          go_wp2_with fail
          refine bodyPost_ret (v := .tuple #[.agg #[.int .u8 kind, .int .u8 level, .int .u32 id, .int .u64 lsn, .int .u32 next, .slice b3 m3 c3], .int .i64 0]) (results_pg (p := 8) (u := 9) (by kernel_rfl) _ _ rfl XB.out) rfl ?_
          exact ⟨.slice b3 m3 c3, by have h := HR.out; subst h; rfl, by have h := HR.out; subst h; exact XO.out, XK.out⟩

end Go.Proofs.Ytjcfnfpilladfaa
