/- chapter 08: with a text at a place, by the document -/
import Derived.Test.YtjcfnfpilladfaaRows
import Derived.Test.YtjcfnfpilladfaaNodeWith0
import Derived.WalkKit
import Derived.WalkLawsBesides
import Derived.WalkSpells
import Derived.LoopTactic
import Derived.WalkMore
import Derived.LoopN
import Derived.Laws.BitsAllLaws
import Derived.Laws.IdiomStrings
import Derived.BigQuiet
import Derived.Deep.QuietTactic
import Derived.Deep.DeepCutAuto
import Derived.Deep.RegionHeld3
import Derived.Deep.DrawnRows
import Derived.Lib.Hide
import Derived.Outline
import Derived.Deep.DeepMust
import Derived.Handy
namespace Go.Proofs.Ytjcfnfpilladfaa
open Go.RowKit
set_option linter.unusedVariables false
set_option linter.unusedSimpArgs false

theorem reads_zero (w : World) (A : Option Addr) : Reads w (.slice A 0 0) 0 1 [] := by
  cases A with
  | none => exact .inl ⟨rfl, rfl, rfl⟩
  | some a => exact .inr ⟨a, 0, rfl, rfl, fun j u hu => by cases hu⟩
theorem TextsAt.back {w : World} {a : Addr} {n cp : Nat} {ts : List (List UInt8)} (h : TextsAt w (.slice (some a) n cp) ts) (k c : Nat) (hk : k ≤ n) : Reads w (.slice (some (a.add k)) (n - k) c) (n - k) 1 (strs (ts.drop k)) := by
  obtain ⟨A', cp', e, h2, h3, h4, h5⟩ := h
  injection e with e1 e2 e3
  subst e1; subst e3; subst e2
  refine .inr ⟨_, _, rfl, by simp [strs], fun j u hu => ?_⟩
  have hj : k + j < ts.length := by
    have := (List.getElem?_eq_some_iff.1 hu).1
    simp [strs] at this
    omega
  obtain ⟨b, o, e, _, hc⟩ := h5 (by omega)
  injection e with e
  subst e
  rw [strs_drop, List.getElem?_drop, strs_get ts _ hj] at hu
  injection hu with hu
  rw [← hu]
  simp only [Addr.add_lit]
  rw [Nat.add_assoc]
  exact hc _ hj
theorem putown {w : World} {base n m k kk : Nat} {v : Value} {L : List Value} {rows : List (List UInt8)} {x : List UInt8} {is : Bool} (h : w.ownsRow base 9 1 v (k + 1 + m) ((strs (rows.take k) ++ [.string ⟨x.toArray⟩]) ++ L)) (hm : m = n - kk) (hL : L = strs (rows.drop kk)) (hkk : kk = if is then k + 1 else k) (hn : n = rows.length) (hk : k ≤ n) :
    w.ownsRow base 9 1 v (putRows rows k x is).length (strs (putRows rows k x is)) := by
  subst hm; subst hL
  have e1 : (strs (rows.take k) ++ [Value.string ⟨x.toArray⟩]) ++ strs (rows.drop kk) = strs (putRows rows k x is) := by unfold putRows; rw [hkk]; simp [strs]
  have e2 : (putRows rows k x is).length = k + 1 + (n - kk) := by unfold putRows; rw [hkk]; simp; omega
  rw [e1, ← e2] at h
  exact h
set_option maxHeartbeats 4000000 in
set_option maxRecDepth 100000 in
theorem refPut_any (p : Pg) (sv : Value) (i : Int) (x : List UInt8) (is : Bool) (w : World) (hp : p.wf) (ht : TextsAt w sv p.rows) (hb : weightB p.rows + (4 + x.length) ≤ 1000000) (hi0 : -9223372036854775808 ≤ i) (hi1 : i ≤ 9223372036854775807) :
    Calls Try.prog 78 #[pgV p sv, .int .i64 i, .string ⟨x.toArray⟩, .bool is] w (PgPost w (putB p i x is)) := by
  have CK := Lib.hid fun W (h : TextsAt W sv p.rows) => refCheck_any p sv W hp h (by omega)
  have CS := Lib.hid fun sv' W (h : TextsAt W sv' (putRows p.rows i.toNat x is)) => refKeys_any (p.with (putRows p.rows i.toNat x is)) sv' W hp h (by have := putRows_weight p.rows i.toNat x is; show weightB (putRows p.rows i.toNat x is) ≤ _; omega)
  have HT := Lib.hid ht
  have hnb : p.rows.length ≤ 1000000 := by have := weightB_length p.rows; omega
  obtain ⟨i0, hif, hz0, hz1, hz2⟩ := info_parts Try.infoStr
  have HI := Lib.hid hif
  have HI0 := Lib.hid hz0
  have HI1 := Lib.hid hz1
  have HI2 := Lib.hid hz2
  clear hif hz0 hz1 hz2
  obtain ⟨n, hn⟩ : ∃ n, n = p.rows.length := ⟨_, rfl⟩
  obtain ⟨A, cp, hsv, h2, h3, h4, h5⟩ := ht
  rw [← hn] at hsv h2 hnb
  subst hsv
  have R1 : Hid (checkB p = false → putB p i x is = (Pg.zero, 7)) := fun h => by unfold putB; rw [h]; rfl
  have R2 : Hid (checkB p = true → placeOk n i is = false → putB p i x is = (Pg.zero, 2)) := fun h h0 => by unfold putB; rw [if_pos h, ← hn, h0]; rfl
  have R3 : Hid (checkB p = true → placeOk n i is = true → keysB (p.with (putRows p.rows i.toNat x is)) = none → putB p i x is = (Pg.zero, 7)) := fun h h0 h1 => by unfold putB; rw [if_pos h, ← hn, h0, h1]; rfl
  have R4 : Hid (checkB p = true → placeOk n i is = true → ∀ ks, keysB (p.with (putRows p.rows i.toNat x is)) = some ks → putB p i x is = (p.with (putRows p.rows i.toNat x is), 0)) := fun h h0 ks h1 => by unfold putB; rw [if_pos h, ← hn, h0, h1]; rfl
  generalize hc : checkB p = c at *
  generalize putB p i x is = R at *
  generalize keysB (p.with (putRows p.rows i.toNat x is)) = K at *
  have H4 := Lib.hid h4
  clear hc h4 h5
  unfold pgV Pg.with at *
  obtain ⟨kind, level, id, lsn, next, rows⟩ := p
  clear hp hb
  have HN := Lib.hid hn
  clear hn
  simp only at *
  unfold maxLen at h3
  have P0 := Lib.hid ((PgBox.new w kind level id lsn next (.slice A n cp)).keep (.cells #[.int .u8 0, .int .u8 0, .int .u32 0, .int .u64 0, .int .u32 0, .slice none 0 0] 45))
  have P1 := Lib.hid (PgBox.new (w.alloc (.cells #[.int .u8 kind, .int .u8 level, .int .u32 id, .int .u64 lsn, .int .u32 next, .slice A n cp] 45)) 0 0 0 0 0 (.slice none 0 0))
  have hz1 : (w.alloc (.cells #[.int .u8 kind, .int .u8 level, .int .u32 id, .int .u64 lsn, .int .u32 next, .slice A n cp] 45)).heap.size = w.heap.size + 1 := by simp
  rw [hz1] at P1
  clear hz1
  have B0 := Lib.hid ((alloc_below w (.cells #[.int .u8 kind, .int .u8 level, .int .u32 id, .int .u64 lsn, .int .u32 next, .slice A n cp] 45)).alloc (by simp) (.cells #[.int .u8 0, .int .u8 0, .int .u32 0, .int .u64 0, .int .u32 0, .slice none 0 0] 45))
  go_enter Try.func78, Try.ntmps78
  go_wp2_with fail
  generalize (w.alloc (.cells #[.int .u8 kind, .int .u8 level, .int .u32 id, .int .u64 lsn, .int .u32 next, .slice A n cp] 45)).alloc (.cells #[.int .u8 0, .int .u8 0, .int .u32 0, .int .u64 0, .int .u32 0, .slice none 0 0] 45) = w0 at *
  have T0 := Lib.hid (HT.out.below B0.out)
  refine (CK.out _ T0.out).mono ?_
  rintro e w1 ⟨rfl, hb1⟩
  have B1 := Lib.hid (below_then B0.out hb1)
  have T1 := Lib.hid (T0.out.below hb1)
  have Q0 := Lib.hid (P0.out.below hb1)
  have Q1 := Lib.hid (P1.out.below hb1)
  obtain ⟨x0, x1, x2, x3, x4, x5, x6⟩ := Q0.out.cells
  clear hb1 P0 P1
  cases c with
  | false =>
    have HR := Lib.hid (R1.out rfl)
    unfold chkN
    obtain ⟨y0, y1, y2, y3, y4, y5, y6⟩ := Q1.out.cells
    obtain ⟨f0, f1, f2, f3, f4, f5⟩ := Q1.out.fr
    have XB := Lib.hid (Q1.out.put 0 0 0 0 0 (.slice none 0 0))
    have XK := Lib.hid (OthersKept.below B1.out (setPg_kept w1 (w.heap.size + 1) 0 0 0 0 0 (.slice none 0 0)) (fun k hk e => by omega))
    go_wp2_with fail
    refine bodyPost_ret (v := .tuple #[.agg #[.int .u8 (0 : Nat), .int .u8 (0 : Nat), .int .u32 (0 : Nat), .int .u64 (0 : Nat), .int .u32 (0 : Nat), .slice none 0 0], .int .i64 7]) (results_pg (p := 8) (u := 9) (by kernel_rfl) _ _ rfl XB.out) rfl ?_
    exact PgPost.no HR.out XK.out
  | true =>
    unfold chkN
    cases hpl : placeOk n i is with
    | false =>
      have HR := Lib.hid (R2.out rfl hpl)
      have hbad : i < 0 ∨ (n : Int) < i ∨ (is = true ∧ i = n) := by
        have h := hpl
        unfold placeOk at h
        rw [decide_eq_false_iff_not] at h
        rcases Int.lt_or_le i 0 with h1 | h1
        · exact .inl h1
        · rcases Int.lt_or_le (n : Int) i with h2 | h2
          · exact .inr (.inl h2)
          · exact .inr (.inr (Classical.byContradiction fun h3 => h ⟨h1, h2, h3⟩))
      clear hpl
      rcases Int.lt_or_le i 0 with ha | ha
      · obtain ⟨y0, y1, y2, y3, y4, y5, y6⟩ := Q1.out.cells
        obtain ⟨f0, f1, f2, f3, f4, f5⟩ := Q1.out.fr
        have XB := Lib.hid (Q1.out.put 0 0 0 0 0 (.slice none 0 0))
        have XK := Lib.hid (OthersKept.below B1.out (setPg_kept w1 (w.heap.size + 1) 0 0 0 0 0 (.slice none 0 0)) (fun k hk e => by omega))
        go_wp2_with fail
        refine bodyPost_ret (v := .tuple #[.agg #[.int .u8 (0 : Nat), .int .u8 (0 : Nat), .int .u32 (0 : Nat), .int .u64 (0 : Nat), .int .u32 (0 : Nat), .slice none 0 0], .int .i64 2]) (results_pg (p := 8) (u := 9) (by kernel_rfl) _ _ rfl XB.out) rfl ?_
        exact PgPost.no HR.out XK.out
      · rcases Int.lt_or_le (n : Int) i with hd | hd
        · obtain ⟨y0, y1, y2, y3, y4, y5, y6⟩ := Q1.out.cells
          obtain ⟨f0, f1, f2, f3, f4, f5⟩ := Q1.out.fr
          have XB := Lib.hid (Q1.out.put 0 0 0 0 0 (.slice none 0 0))
          have XK := Lib.hid (OthersKept.below B1.out (setPg_kept w1 (w.heap.size + 1) 0 0 0 0 0 (.slice none 0 0)) (fun k hk e => by omega))
          go_wp2_with fail
          refine bodyPost_ret (v := .tuple #[.agg #[.int .u8 (0 : Nat), .int .u8 (0 : Nat), .int .u32 (0 : Nat), .int .u64 (0 : Nat), .int .u32 (0 : Nat), .slice none 0 0], .int .i64 2]) (results_pg (p := 8) (u := 9) (by kernel_rfl) _ _ rfl XB.out) rfl ?_
          exact PgPost.no HR.out XK.out
        · obtain ⟨rfl, hin⟩ : is = true ∧ i = n := by rcases hbad with h | h | h <;> first | exact h | omega
          have hd1 : ¬ i < 0 := by omega
          have hd2 : ¬ (n : Int) < i := by omega
          have hd3 : (i == (n : Int)) = true := by simp; omega
          clear hbad ha hd
          obtain ⟨y0, y1, y2, y3, y4, y5, y6⟩ := Q1.out.cells
          obtain ⟨f0, f1, f2, f3, f4, f5⟩ := Q1.out.fr
          have XB := Lib.hid (Q1.out.put 0 0 0 0 0 (.slice none 0 0))
          have XK := Lib.hid (OthersKept.below B1.out (setPg_kept w1 (w.heap.size + 1) 0 0 0 0 0 (.slice none 0 0)) (fun k hk e => by omega))
          go_wp2_with fail
          refine bodyPost_ret (v := .tuple #[.agg #[.int .u8 (0 : Nat), .int .u8 (0 : Nat), .int .u32 (0 : Nat), .int .u64 (0 : Nat), .int .u32 (0 : Nat), .slice none 0 0], .int .i64 2]) (results_pg (p := 8) (u := 9) (by kernel_rfl) _ _ rfl XB.out) rfl ?_
          exact PgPost.no HR.out XK.out
    | true =>
      rw [placeOk_iff] at hpl
      obtain ⟨ha, hb, hc⟩ := hpl
      have hpl : placeOk n i is = true := placeOk_iff.2 ⟨ha, hb, hc⟩
      have G3 := Lib.hid (R3.out rfl hpl)
      have G4 := Lib.hid (R4.out rfl hpl)
      obtain ⟨k, rfl⟩ : ∃ k : Nat, i = k := ⟨i.toNat, by omega⟩
      have hkn : k ≤ n := by omega
      clear hpl
      rw [show (k : Int).toNat = k by omega] at CS G4
      have q0 : ¬ (k : Int) < 0 := by omega
      have q1 : ¬ (n : Int) < (k : Int) := by omega
      have q2 : is = true → ((k : Int) == (n : Int)) = false := fun h => by have h9 : ¬ (k : Int) = (n : Int) := fun e => hc ⟨h, e⟩; simp; omega
      have q3 : is = true → k < n := fun h => by have h9 : ¬ (k : Int) = (n : Int) := fun e => hc ⟨h, e⟩; omega
      clear hc ha hb
      cases is with
      | false =>
        go_upto_region 5 with fail
        have TK := (T1.out.take k cp hkn (by omega) (Nat.le_refl _)).below (alloc_below w1 (.cells #[] 9))
        have TA := Lib.hid TK.reads
        have hlk : (rows.take k).length = k := by have := HN.out; simp; omega
        rw [hlk] at TA
        clear TK hlk
        have hs0 := x0
        have hs1 := Q1.out.lt
        have hkb : (0 : Int) ≤ (k : Int) := by omega
        have hkb2 : (k : Int) ≤ (cp : Int) := by omega
        have hkb3 : ((k : Int) + 1).toNat = k + 1 := by omega
        by_cases hck : cp = k
        · have HL : Hid (([] : List Value) = strs (rows.drop k)) := by show _ = _; rw [List.drop_eq_nil_of_le (by have := HN.out; omega)]; rfl
          have BR := Lib.hid fun W (hb : Below w1.heap.size w1 W) => reads_zero W A
          obtain rfl : k = n := by omega
          obtain rfl : k = cp := hck.symm
          go_wp2_with (first
            | (at_builtin; refine wpList_append_any _ rfl _ _ 24 rfl w1.heap.size 9 i0 (.string ⟨#[]⟩) 1 16 Try.underlying24 HI.out HI0.out HI1.out HI2.out rfl (by decide) _ _ _ (by rfl) HO3.out (.slice A 0 0) 0 [] (by rfl) (BR.out _ BB3.out) (fun u hu => by cases hu) (by unfold maxLen; omega) (by omega) (by omega) ?_; intro v4 w4 hown4 hgrow4; have hown5 := putown (is := false) (kk := k) hown4 (by omega) HL.out rfl HN.out (by omega); obtain ⟨m3, hm3⟩ : ∃ m, m = (putRows rows k x false).length := ⟨_, rfl⟩; obtain ⟨b3, c3, hv3, _, _, _⟩ := own_form hown5; rw [← hm3] at hv3; clear hm3; subst hv3; have O3 := Lib.hid hown5; have B3 := Lib.hid (BW3.out.grown hgrow4 (Nat.le_trans B1.out.size hs3) (fun j hj => by have := (HO3.out.lt j hj).1; omega)); have Q2 := Lib.hid (Q03.out.grown hgrow4 (fun h => by have := (HO3.out.lt _ h.symm).1; omega)); have Q3 := Lib.hid (Q13.out.grown hgrow4 (fun h => by have := (HO3.out.lt _ h.symm).1; omega)); have hs4 : w1.heap.size ≤ w4.heap.size := Nat.le_trans hs3 hgrow4.size; obtain ⟨z0, z1, z2, z3, z4, z5, z6⟩ := Q2.out.cells; obtain ⟨f0, f1, f2, f3, f4, f5⟩ := Q2.out.fr; clear hown4 hgrow4 hown5)
            | (at_builtin; refine wpList_append_own _ rfl _ _ 24 rfl w1.heap.size 9 i0 (.string ⟨#[]⟩) 1 16 Try.underlying24 HI.out HI0.out HI1.out HI2.out rfl (by decide) _ _ _ (by rfl) (HO2.out.alloc _) ⟨w2.heap.size, 0, none⟩ 1 1 [.string ⟨x.toArray⟩] (by rfl) rfl (one_new _ _ _) (one_str _) (by unfold maxLen; omega) (by omega) (by simp; omega) ?_; intro v3 w3 hown3 hgrow3 hnil3; clear hnil3; have HO3 := Lib.hid hown3; have BW3 := Lib.hid ((BW2.out.alloc (Nat.le_trans B1.out.size hs2) (.cells #[.string ⟨x.toArray⟩] 9)).grown hgrow3 (by simp; have := B1.out.size; omega) (fun j hj => by have := (HO2.out.lt j hj).1; have := B1.out.size; omega)); have BB3 := Lib.hid ((BB2.out.alloc hs2 (.cells #[.string ⟨x.toArray⟩] 9)).grown hgrow3 (by simp; omega) (fun j hj => (HO2.out.lt j hj).1)); have Q03 := Lib.hid ((Q02.out.keep _).grown hgrow3 (fun h => by have := (HO2.out.lt _ h.symm).1; omega)); have Q13 := Lib.hid ((Q12.out.keep _).grown hgrow3 (fun h => by have := (HO2.out.lt _ h.symm).1; omega)); have hs3 : w1.heap.size ≤ w3.heap.size := (by have h9 := hgrow3.size; simp at h9; omega); obtain ⟨y0, y1, y2, y3, y4, y5, y6⟩ := Q03.out.cells; clear hown3 hgrow3)
            | (at_builtin; refine wpList_append_any _ rfl _ _ 24 rfl w1.heap.size 9 i0 (.string ⟨#[]⟩) 1 16 Try.underlying24 HI.out HI0.out HI1.out HI2.out rfl (by decide) (.slice (some ⟨w1.heap.size, 0, none⟩) 0 0) 0 [] (by rfl) (World.ownsRow_made w1 #[] 0 (Nat.le_refl _) (by unfold maxLen; omega) rfl) (.slice A k k) k (strs (rows.take k)) (by rfl) TA.out (strs_oneCell _) (by unfold maxLen; omega) (by omega) (by simp) ?_; intro v2 w2 hown2 hgrow2; simp only [Nat.zero_add, List.nil_append] at hown2; have HO2 := Lib.hid hown2; have BW2 := Lib.hid ((B1.out.alloc B1.out.size (.cells #[] 9)).grown hgrow2 (by simp; have := B1.out.size; omega) (fun j hj => by simp [Value.ownBlock] at hj; have := B1.out.size; omega)); have BB2 := Lib.hid ((alloc_below w1 (.cells #[] 9)).grown hgrow2 (by simp) (fun j hj => by simp [Value.ownBlock] at hj; omega)); have Q02 := Lib.hid ((Q0.out.keep _).grown hgrow2 (fun h => by simp [Value.ownBlock] at h; omega)); have Q12 := Lib.hid ((Q1.out.keep _).grown hgrow2 (fun h => by simp [Value.ownBlock] at h; omega)); have hs2 : w1.heap.size ≤ w2.heap.size := (by have h9 := hgrow2.size; simp at h9; omega); clear hown2 hgrow2))
          have B4 := Lib.hid (OthersKept.below B3.out (one_kept w4 w.heap.size 5 (.slice b3 m3 c3)) (fun j hj e => by omega))
          have O4 := Lib.hid (own_set_far (g := w.heap.size) (i := 5) (u := .slice b3 m3 c3) O3.out (fun j hj => by have := (O3.out.lt j hj).1; omega))
          have P0 := Lib.hid (Q2.out.set5 (.slice b3 m3 c3))
          have P1 := Lib.hid (Q3.out.kept (one_kept w4 w.heap.size 5 (.slice b3 m3 c3)) (by omega))
          clear O3 x0 x1 x2 x3 x4 x5 y0 y1 y2 y3 y4 y5 z0 z1 z2 z3 z4 z5 f0 f1 f2 f3 f4 f5
          generalize w4.setCell ⟨w.heap.size, 5, none⟩ (.slice b3 m3 c3) = w5 at *
          refine (CS.out (.slice b3 m3 c3) _ (texts_own O4.out).1).mono ?_
          rintro e w6 ⟨v6, rfl, _, hb6⟩
          have B6 := Lib.hid (below_then B4.out hb6)
          have O6 := Lib.hid (own_below O4.out hb6)
          have Q6 := Lib.hid (P0.out.below hb6)
          have Q7 := Lib.hid (P1.out.below hb6)
          clear hb6 P0 P1
          cases K with
          | none =>
            have HR := Lib.hid (G3.out rfl)
            obtain ⟨y0, y1, y2, y3, y4, y5, y6⟩ := Q7.out.cells
            obtain ⟨f0, f1, f2, f3, f4, f5⟩ := Q7.out.fr
            have XB := Lib.hid (Q7.out.put 0 0 0 0 0 (.slice none 0 0))
            have XK := Lib.hid (OthersKept.below B6.out (setPg_kept w6 (w.heap.size + 1) 0 0 0 0 0 (.slice none 0 0)) (fun k hk e => by omega))
            go_wp2_with fail
            refine bodyPost_ret (v := .tuple #[.agg #[.int .u8 (0 : Nat), .int .u8 (0 : Nat), .int .u32 (0 : Nat), .int .u64 (0 : Nat), .int .u32 (0 : Nat), .slice none 0 0], .int .i64 7]) (results_pg (p := 8) (u := 9) (by kernel_rfl) _ _ rfl XB.out) rfl ?_
            exact PgPost.no HR.out XK.out
          | some ks =>
            have HR := Lib.hid (G4.out ks rfl)
            obtain ⟨x0, x1, x2, x3, x4, x5, x6⟩ := Q6.out.cells
            obtain ⟨y0, y1, y2, y3, y4, y5, y6⟩ := Q7.out.cells
            obtain ⟨f0, f1, f2, f3, f4, f5⟩ := Q7.out.fr
            have XB := Lib.hid (Q7.out.put kind level id lsn next (.slice b3 m3 c3))
            have hk6 := setPg_kept w6 (w.heap.size + 1) kind level id lsn next (.slice b3 m3 c3)
            have XK := Lib.hid (OthersKept.below B6.out hk6 (fun k hk e => by omega))
            have XO := Lib.hid (texts_own (hk6.owns O6.out (fun j hj e => by have := (O6.out.lt j hj).1; omega))).1
            clear hk6
            go_wp2_with fail
            refine bodyPost_ret (v := .tuple #[.agg #[.int .u8 kind, .int .u8 level, .int .u32 id, .int .u64 lsn, .int .u32 next, .slice b3 m3 c3], .int .i64 0]) (results_pg (p := 8) (u := 9) (by kernel_rfl) _ _ rfl XB.out) rfl ?_
            exact ⟨.slice b3 m3 c3, by have h := HR.out; subst h; rfl, by have h := HR.out; subst h; exact XO.out, XK.out⟩
        · obtain ⟨a, rfl⟩ : ∃ a, A = some a := by
            cases A with
            | none => have := (H4.out rfl).2; omega
            | some a => exact ⟨a, rfl⟩
          have hk9 : ¬ n < k := by omega
          have hk8 : ((k : Nat) : Int) ≤ (n : Int) := by omega
          have BR := Lib.hid fun W hb => (T1.out.back k (cp - k) (by omega)).below (w' := W) hb
          go_wp2_with (first
            | (at_builtin; refine wpList_append_any _ rfl _ _ 24 rfl w1.heap.size 9 i0 (.string ⟨#[]⟩) 1 16 Try.underlying24 HI.out HI0.out HI1.out HI2.out rfl (by decide) _ _ _ (by rfl) HO3.out (.slice (some (a.add k)) (n - k) (cp - k)) (n - k) (strs (rows.drop k)) (by rfl) (BR.out _ BB3.out) (strs_oneCell _) (by unfold maxLen; omega) (by omega) (by omega) ?_; intro v4 w4 hown4 hgrow4; have hown5 := putown (is := false) (kk := k) hown4 (by omega) rfl rfl HN.out (by omega); obtain ⟨m3, hm3⟩ : ∃ m, m = (putRows rows k x false).length := ⟨_, rfl⟩; obtain ⟨b3, c3, hv3, _, _, _⟩ := own_form hown5; rw [← hm3] at hv3; clear hm3; subst hv3; have O3 := Lib.hid hown5; have B3 := Lib.hid (BW3.out.grown hgrow4 (Nat.le_trans B1.out.size hs3) (fun j hj => by have := (HO3.out.lt j hj).1; omega)); have Q2 := Lib.hid (Q03.out.grown hgrow4 (fun h => by have := (HO3.out.lt _ h.symm).1; omega)); have Q3 := Lib.hid (Q13.out.grown hgrow4 (fun h => by have := (HO3.out.lt _ h.symm).1; omega)); have hs4 : w1.heap.size ≤ w4.heap.size := Nat.le_trans hs3 hgrow4.size; obtain ⟨z0, z1, z2, z3, z4, z5, z6⟩ := Q2.out.cells; obtain ⟨f0, f1, f2, f3, f4, f5⟩ := Q2.out.fr; clear hown4 hgrow4 hown5)
            | (at_builtin; refine wpList_append_own _ rfl _ _ 24 rfl w1.heap.size 9 i0 (.string ⟨#[]⟩) 1 16 Try.underlying24 HI.out HI0.out HI1.out HI2.out rfl (by decide) _ _ _ (by rfl) (HO2.out.alloc _) ⟨w2.heap.size, 0, none⟩ 1 1 [.string ⟨x.toArray⟩] (by rfl) rfl (one_new _ _ _) (one_str _) (by unfold maxLen; omega) (by omega) (by simp; omega) ?_; intro v3 w3 hown3 hgrow3 hnil3; clear hnil3; have HO3 := Lib.hid hown3; have BW3 := Lib.hid ((BW2.out.alloc (Nat.le_trans B1.out.size hs2) (.cells #[.string ⟨x.toArray⟩] 9)).grown hgrow3 (by simp; have := B1.out.size; omega) (fun j hj => by have := (HO2.out.lt j hj).1; have := B1.out.size; omega)); have BB3 := Lib.hid ((BB2.out.alloc hs2 (.cells #[.string ⟨x.toArray⟩] 9)).grown hgrow3 (by simp; omega) (fun j hj => (HO2.out.lt j hj).1)); have Q03 := Lib.hid ((Q02.out.keep _).grown hgrow3 (fun h => by have := (HO2.out.lt _ h.symm).1; omega)); have Q13 := Lib.hid ((Q12.out.keep _).grown hgrow3 (fun h => by have := (HO2.out.lt _ h.symm).1; omega)); have hs3 : w1.heap.size ≤ w3.heap.size := (by have h9 := hgrow3.size; simp at h9; omega); obtain ⟨y0, y1, y2, y3, y4, y5, y6⟩ := Q03.out.cells; clear hown3 hgrow3)
            | (at_builtin; refine wpList_append_any _ rfl _ _ 24 rfl w1.heap.size 9 i0 (.string ⟨#[]⟩) 1 16 Try.underlying24 HI.out HI0.out HI1.out HI2.out rfl (by decide) (.slice (some ⟨w1.heap.size, 0, none⟩) 0 0) 0 [] (by rfl) (World.ownsRow_made w1 #[] 0 (Nat.le_refl _) (by unfold maxLen; omega) rfl) (.slice (some a) k cp) k (strs (rows.take k)) (by rfl) TA.out (strs_oneCell _) (by unfold maxLen; omega) (by omega) (by simp) ?_; intro v2 w2 hown2 hgrow2; simp only [Nat.zero_add, List.nil_append] at hown2; have HO2 := Lib.hid hown2; have BW2 := Lib.hid ((B1.out.alloc B1.out.size (.cells #[] 9)).grown hgrow2 (by simp; have := B1.out.size; omega) (fun j hj => by simp [Value.ownBlock] at hj; have := B1.out.size; omega)); have BB2 := Lib.hid ((alloc_below w1 (.cells #[] 9)).grown hgrow2 (by simp) (fun j hj => by simp [Value.ownBlock] at hj; omega)); have Q02 := Lib.hid ((Q0.out.keep _).grown hgrow2 (fun h => by simp [Value.ownBlock] at h; omega)); have Q12 := Lib.hid ((Q1.out.keep _).grown hgrow2 (fun h => by simp [Value.ownBlock] at h; omega)); have hs2 : w1.heap.size ≤ w2.heap.size := (by have h9 := hgrow2.size; simp at h9; omega); clear hown2 hgrow2))
          have B4 := Lib.hid (OthersKept.below B3.out (one_kept w4 w.heap.size 5 (.slice b3 m3 c3)) (fun j hj e => by omega))
          have O4 := Lib.hid (own_set_far (g := w.heap.size) (i := 5) (u := .slice b3 m3 c3) O3.out (fun j hj => by have := (O3.out.lt j hj).1; omega))
          have P0 := Lib.hid (Q2.out.set5 (.slice b3 m3 c3))
          have P1 := Lib.hid (Q3.out.kept (one_kept w4 w.heap.size 5 (.slice b3 m3 c3)) (by omega))
          clear O3 x0 x1 x2 x3 x4 x5 y0 y1 y2 y3 y4 y5 z0 z1 z2 z3 z4 z5 f0 f1 f2 f3 f4 f5
          generalize w4.setCell ⟨w.heap.size, 5, none⟩ (.slice b3 m3 c3) = w5 at *
          refine (CS.out (.slice b3 m3 c3) _ (texts_own O4.out).1).mono ?_
          rintro e w6 ⟨v6, rfl, _, hb6⟩
          have B6 := Lib.hid (below_then B4.out hb6)
          have O6 := Lib.hid (own_below O4.out hb6)
          have Q6 := Lib.hid (P0.out.below hb6)
          have Q7 := Lib.hid (P1.out.below hb6)
          clear hb6 P0 P1
          cases K with
          | none =>
            have HR := Lib.hid (G3.out rfl)
            obtain ⟨y0, y1, y2, y3, y4, y5, y6⟩ := Q7.out.cells
            obtain ⟨f0, f1, f2, f3, f4, f5⟩ := Q7.out.fr
            have XB := Lib.hid (Q7.out.put 0 0 0 0 0 (.slice none 0 0))
            have XK := Lib.hid (OthersKept.below B6.out (setPg_kept w6 (w.heap.size + 1) 0 0 0 0 0 (.slice none 0 0)) (fun k hk e => by omega))
            go_wp2_with fail
            refine bodyPost_ret (v := .tuple #[.agg #[.int .u8 (0 : Nat), .int .u8 (0 : Nat), .int .u32 (0 : Nat), .int .u64 (0 : Nat), .int .u32 (0 : Nat), .slice none 0 0], .int .i64 7]) (results_pg (p := 8) (u := 9) (by kernel_rfl) _ _ rfl XB.out) rfl ?_
            exact PgPost.no HR.out XK.out
          | some ks =>
            have HR := Lib.hid (G4.out ks rfl)
            obtain ⟨x0, x1, x2, x3, x4, x5, x6⟩ := Q6.out.cells
            obtain ⟨y0, y1, y2, y3, y4, y5, y6⟩ := Q7.out.cells
            obtain ⟨f0, f1, f2, f3, f4, f5⟩ := Q7.out.fr
            have XB := Lib.hid (Q7.out.put kind level id lsn next (.slice b3 m3 c3))
            have hk6 := setPg_kept w6 (w.heap.size + 1) kind level id lsn next (.slice b3 m3 c3)
            have XK := Lib.hid (OthersKept.below B6.out hk6 (fun k hk e => by omega))
            have XO := Lib.hid (texts_own (hk6.owns O6.out (fun j hj e => by have := (O6.out.lt j hj).1; omega))).1
            clear hk6
            go_wp2_with fail
            refine bodyPost_ret (v := .tuple #[.agg #[.int .u8 kind, .int .u8 level, .int .u32 id, .int .u64 lsn, .int .u32 next, .slice b3 m3 c3], .int .i64 0]) (results_pg (p := 8) (u := 9) (by kernel_rfl) _ _ rfl XB.out) rfl ?_
            exact ⟨.slice b3 m3 c3, by have h := HR.out; subst h; rfl, by have h := HR.out; subst h; exact XO.out, XK.out⟩
      | true =>
        have q2 := q2 rfl
        have q3 := q3 rfl
        go_upto_region 5 with fail
        have TK := (T1.out.take k cp hkn (by omega) (Nat.le_refl _)).below (alloc_below w1 (.cells #[] 9))
        have TA := Lib.hid TK.reads
        have hlk : (rows.take k).length = k := by have := HN.out; simp; omega
        rw [hlk] at TA
        clear TK hlk
        have hs0 := x0
        have hs1 := Q1.out.lt
        have hkb : (0 : Int) ≤ (k : Int) := by omega
        have hkb2 : (k : Int) ≤ (cp : Int) := by omega
        have hkb3 : ((k : Int) + 1).toNat = k + 1 := by omega
        by_cases hck : cp = (k + 1)
        · have HL : Hid (([] : List Value) = strs (rows.drop (k + 1))) := by show _ = _; rw [List.drop_eq_nil_of_le (by have := HN.out; omega)]; rfl
          have BR := Lib.hid fun W (hb : Below w1.heap.size w1 W) => reads_zero W A
          obtain rfl : n = k + 1 := by omega
          subst hck
          go_wp2_with (first
            | (at_builtin; refine wpList_append_any _ rfl _ _ 24 rfl w1.heap.size 9 i0 (.string ⟨#[]⟩) 1 16 Try.underlying24 HI.out HI0.out HI1.out HI2.out rfl (by decide) _ _ _ (by rfl) HO3.out (.slice A 0 0) 0 [] (by rfl) (BR.out _ BB3.out) (fun u hu => by cases hu) (by unfold maxLen; omega) (by omega) (by omega) ?_; intro v4 w4 hown4 hgrow4; have hown5 := putown (is := true) (kk := (k + 1)) hown4 (by omega) HL.out rfl HN.out (by omega); obtain ⟨m3, hm3⟩ : ∃ m, m = (putRows rows k x true).length := ⟨_, rfl⟩; obtain ⟨b3, c3, hv3, _, _, _⟩ := own_form hown5; rw [← hm3] at hv3; clear hm3; subst hv3; have O3 := Lib.hid hown5; have B3 := Lib.hid (BW3.out.grown hgrow4 (Nat.le_trans B1.out.size hs3) (fun j hj => by have := (HO3.out.lt j hj).1; omega)); have Q2 := Lib.hid (Q03.out.grown hgrow4 (fun h => by have := (HO3.out.lt _ h.symm).1; omega)); have Q3 := Lib.hid (Q13.out.grown hgrow4 (fun h => by have := (HO3.out.lt _ h.symm).1; omega)); have hs4 : w1.heap.size ≤ w4.heap.size := Nat.le_trans hs3 hgrow4.size; obtain ⟨z0, z1, z2, z3, z4, z5, z6⟩ := Q2.out.cells; obtain ⟨f0, f1, f2, f3, f4, f5⟩ := Q2.out.fr; clear hown4 hgrow4 hown5)
            | (at_builtin; refine wpList_append_own _ rfl _ _ 24 rfl w1.heap.size 9 i0 (.string ⟨#[]⟩) 1 16 Try.underlying24 HI.out HI0.out HI1.out HI2.out rfl (by decide) _ _ _ (by rfl) (HO2.out.alloc _) ⟨w2.heap.size, 0, none⟩ 1 1 [.string ⟨x.toArray⟩] (by rfl) rfl (one_new _ _ _) (one_str _) (by unfold maxLen; omega) (by omega) (by simp; omega) ?_; intro v3 w3 hown3 hgrow3 hnil3; clear hnil3; have HO3 := Lib.hid hown3; have BW3 := Lib.hid ((BW2.out.alloc (Nat.le_trans B1.out.size hs2) (.cells #[.string ⟨x.toArray⟩] 9)).grown hgrow3 (by simp; have := B1.out.size; omega) (fun j hj => by have := (HO2.out.lt j hj).1; have := B1.out.size; omega)); have BB3 := Lib.hid ((BB2.out.alloc hs2 (.cells #[.string ⟨x.toArray⟩] 9)).grown hgrow3 (by simp; omega) (fun j hj => (HO2.out.lt j hj).1)); have Q03 := Lib.hid ((Q02.out.keep _).grown hgrow3 (fun h => by have := (HO2.out.lt _ h.symm).1; omega)); have Q13 := Lib.hid ((Q12.out.keep _).grown hgrow3 (fun h => by have := (HO2.out.lt _ h.symm).1; omega)); have hs3 : w1.heap.size ≤ w3.heap.size := (by have h9 := hgrow3.size; simp at h9; omega); obtain ⟨y0, y1, y2, y3, y4, y5, y6⟩ := Q03.out.cells; clear hown3 hgrow3)
            | (at_builtin; refine wpList_append_any _ rfl _ _ 24 rfl w1.heap.size 9 i0 (.string ⟨#[]⟩) 1 16 Try.underlying24 HI.out HI0.out HI1.out HI2.out rfl (by decide) (.slice (some ⟨w1.heap.size, 0, none⟩) 0 0) 0 [] (by rfl) (World.ownsRow_made w1 #[] 0 (Nat.le_refl _) (by unfold maxLen; omega) rfl) (.slice A k (k + 1)) k (strs (rows.take k)) (by rfl) TA.out (strs_oneCell _) (by unfold maxLen; omega) (by omega) (by simp) ?_; intro v2 w2 hown2 hgrow2; simp only [Nat.zero_add, List.nil_append] at hown2; have HO2 := Lib.hid hown2; have BW2 := Lib.hid ((B1.out.alloc B1.out.size (.cells #[] 9)).grown hgrow2 (by simp; have := B1.out.size; omega) (fun j hj => by simp [Value.ownBlock] at hj; have := B1.out.size; omega)); have BB2 := Lib.hid ((alloc_below w1 (.cells #[] 9)).grown hgrow2 (by simp) (fun j hj => by simp [Value.ownBlock] at hj; omega)); have Q02 := Lib.hid ((Q0.out.keep _).grown hgrow2 (fun h => by simp [Value.ownBlock] at h; omega)); have Q12 := Lib.hid ((Q1.out.keep _).grown hgrow2 (fun h => by simp [Value.ownBlock] at h; omega)); have hs2 : w1.heap.size ≤ w2.heap.size := (by have h9 := hgrow2.size; simp at h9; omega); clear hown2 hgrow2))
          have B4 := Lib.hid (OthersKept.below B3.out (one_kept w4 w.heap.size 5 (.slice b3 m3 c3)) (fun j hj e => by omega))
          have O4 := Lib.hid (own_set_far (g := w.heap.size) (i := 5) (u := .slice b3 m3 c3) O3.out (fun j hj => by have := (O3.out.lt j hj).1; omega))
          have P0 := Lib.hid (Q2.out.set5 (.slice b3 m3 c3))
          have P1 := Lib.hid (Q3.out.kept (one_kept w4 w.heap.size 5 (.slice b3 m3 c3)) (by omega))
          clear O3 x0 x1 x2 x3 x4 x5 y0 y1 y2 y3 y4 y5 z0 z1 z2 z3 z4 z5 f0 f1 f2 f3 f4 f5
          generalize w4.setCell ⟨w.heap.size, 5, none⟩ (.slice b3 m3 c3) = w5 at *
          refine (CS.out (.slice b3 m3 c3) _ (texts_own O4.out).1).mono ?_
          rintro e w6 ⟨v6, rfl, _, hb6⟩
          have B6 := Lib.hid (below_then B4.out hb6)
          have O6 := Lib.hid (own_below O4.out hb6)
          have Q6 := Lib.hid (P0.out.below hb6)
          have Q7 := Lib.hid (P1.out.below hb6)
          clear hb6 P0 P1
          cases K with
          | none =>
            have HR := Lib.hid (G3.out rfl)
            obtain ⟨y0, y1, y2, y3, y4, y5, y6⟩ := Q7.out.cells
            obtain ⟨f0, f1, f2, f3, f4, f5⟩ := Q7.out.fr
            have XB := Lib.hid (Q7.out.put 0 0 0 0 0 (.slice none 0 0))
            have XK := Lib.hid (OthersKept.below B6.out (setPg_kept w6 (w.heap.size + 1) 0 0 0 0 0 (.slice none 0 0)) (fun k hk e => by omega))
            go_wp2_with fail
            refine bodyPost_ret (v := .tuple #[.agg #[.int .u8 (0 : Nat), .int .u8 (0 : Nat), .int .u32 (0 : Nat), .int .u64 (0 : Nat), .int .u32 (0 : Nat), .slice none 0 0], .int .i64 7]) (results_pg (p := 8) (u := 9) (by kernel_rfl) _ _ rfl XB.out) rfl ?_
            exact PgPost.no HR.out XK.out
          | some ks =>
            have HR := Lib.hid (G4.out ks rfl)
            obtain ⟨x0, x1, x2, x3, x4, x5, x6⟩ := Q6.out.cells
            obtain ⟨y0, y1, y2, y3, y4, y5, y6⟩ := Q7.out.cells
            obtain ⟨f0, f1, f2, f3, f4, f5⟩ := Q7.out.fr
            have XB := Lib.hid (Q7.out.put kind level id lsn next (.slice b3 m3 c3))
            have hk6 := setPg_kept w6 (w.heap.size + 1) kind level id lsn next (.slice b3 m3 c3)
            have XK := Lib.hid (OthersKept.below B6.out hk6 (fun k hk e => by omega))
            have XO := Lib.hid (texts_own (hk6.owns O6.out (fun j hj e => by have := (O6.out.lt j hj).1; omega))).1
            clear hk6
            go_wp2_with fail
            refine bodyPost_ret (v := .tuple #[.agg #[.int .u8 kind, .int .u8 level, .int .u32 id, .int .u64 lsn, .int .u32 next, .slice b3 m3 c3], .int .i64 0]) (results_pg (p := 8) (u := 9) (by kernel_rfl) _ _ rfl XB.out) rfl ?_
            exact ⟨.slice b3 m3 c3, by have h := HR.out; subst h; rfl, by have h := HR.out; subst h; exact XO.out, XK.out⟩
        · obtain ⟨a, rfl⟩ : ∃ a, A = some a := by
            cases A with
            | none => have := (H4.out rfl).2; omega
            | some a => exact ⟨a, rfl⟩
          have hk9 : ¬ n < (k + 1) := by omega
          have hk8 : (((k + 1) : Nat) : Int) ≤ (n : Int) := by omega
          have BR := Lib.hid fun W hb => (T1.out.back (k + 1) (cp - (k + 1)) (by omega)).below (w' := W) hb
          go_wp2_with (first
            | (at_builtin; refine wpList_append_any _ rfl _ _ 24 rfl w1.heap.size 9 i0 (.string ⟨#[]⟩) 1 16 Try.underlying24 HI.out HI0.out HI1.out HI2.out rfl (by decide) _ _ _ (by rfl) HO3.out (.slice (some (a.add (k + 1))) (n - (k + 1)) (cp - (k + 1))) (n - (k + 1)) (strs (rows.drop (k + 1))) (by rfl) (BR.out _ BB3.out) (strs_oneCell _) (by unfold maxLen; omega) (by omega) (by omega) ?_; intro v4 w4 hown4 hgrow4; have hown5 := putown (is := true) (kk := (k + 1)) hown4 (by omega) rfl rfl HN.out (by omega); obtain ⟨m3, hm3⟩ : ∃ m, m = (putRows rows k x true).length := ⟨_, rfl⟩; obtain ⟨b3, c3, hv3, _, _, _⟩ := own_form hown5; rw [← hm3] at hv3; clear hm3; subst hv3; have O3 := Lib.hid hown5; have B3 := Lib.hid (BW3.out.grown hgrow4 (Nat.le_trans B1.out.size hs3) (fun j hj => by have := (HO3.out.lt j hj).1; omega)); have Q2 := Lib.hid (Q03.out.grown hgrow4 (fun h => by have := (HO3.out.lt _ h.symm).1; omega)); have Q3 := Lib.hid (Q13.out.grown hgrow4 (fun h => by have := (HO3.out.lt _ h.symm).1; omega)); have hs4 : w1.heap.size ≤ w4.heap.size := Nat.le_trans hs3 hgrow4.size; obtain ⟨z0, z1, z2, z3, z4, z5, z6⟩ := Q2.out.cells; obtain ⟨f0, f1, f2, f3, f4, f5⟩ := Q2.out.fr; clear hown4 hgrow4 hown5)
            | (at_builtin; refine wpList_append_own _ rfl _ _ 24 rfl w1.heap.size 9 i0 (.string ⟨#[]⟩) 1 16 Try.underlying24 HI.out HI0.out HI1.out HI2.out rfl (by decide) _ _ _ (by rfl) (HO2.out.alloc _) ⟨w2.heap.size, 0, none⟩ 1 1 [.string ⟨x.toArray⟩] (by rfl) rfl (one_new _ _ _) (one_str _) (by unfold maxLen; omega) (by omega) (by simp; omega) ?_; intro v3 w3 hown3 hgrow3 hnil3; clear hnil3; have HO3 := Lib.hid hown3; have BW3 := Lib.hid ((BW2.out.alloc (Nat.le_trans B1.out.size hs2) (.cells #[.string ⟨x.toArray⟩] 9)).grown hgrow3 (by simp; have := B1.out.size; omega) (fun j hj => by have := (HO2.out.lt j hj).1; have := B1.out.size; omega)); have BB3 := Lib.hid ((BB2.out.alloc hs2 (.cells #[.string ⟨x.toArray⟩] 9)).grown hgrow3 (by simp; omega) (fun j hj => (HO2.out.lt j hj).1)); have Q03 := Lib.hid ((Q02.out.keep _).grown hgrow3 (fun h => by have := (HO2.out.lt _ h.symm).1; omega)); have Q13 := Lib.hid ((Q12.out.keep _).grown hgrow3 (fun h => by have := (HO2.out.lt _ h.symm).1; omega)); have hs3 : w1.heap.size ≤ w3.heap.size := (by have h9 := hgrow3.size; simp at h9; omega); obtain ⟨y0, y1, y2, y3, y4, y5, y6⟩ := Q03.out.cells; clear hown3 hgrow3)
            | (at_builtin; refine wpList_append_any _ rfl _ _ 24 rfl w1.heap.size 9 i0 (.string ⟨#[]⟩) 1 16 Try.underlying24 HI.out HI0.out HI1.out HI2.out rfl (by decide) (.slice (some ⟨w1.heap.size, 0, none⟩) 0 0) 0 [] (by rfl) (World.ownsRow_made w1 #[] 0 (Nat.le_refl _) (by unfold maxLen; omega) rfl) (.slice (some a) k cp) k (strs (rows.take k)) (by rfl) TA.out (strs_oneCell _) (by unfold maxLen; omega) (by omega) (by simp) ?_; intro v2 w2 hown2 hgrow2; simp only [Nat.zero_add, List.nil_append] at hown2; have HO2 := Lib.hid hown2; have BW2 := Lib.hid ((B1.out.alloc B1.out.size (.cells #[] 9)).grown hgrow2 (by simp; have := B1.out.size; omega) (fun j hj => by simp [Value.ownBlock] at hj; have := B1.out.size; omega)); have BB2 := Lib.hid ((alloc_below w1 (.cells #[] 9)).grown hgrow2 (by simp) (fun j hj => by simp [Value.ownBlock] at hj; omega)); have Q02 := Lib.hid ((Q0.out.keep _).grown hgrow2 (fun h => by simp [Value.ownBlock] at h; omega)); have Q12 := Lib.hid ((Q1.out.keep _).grown hgrow2 (fun h => by simp [Value.ownBlock] at h; omega)); have hs2 : w1.heap.size ≤ w2.heap.size := (by have h9 := hgrow2.size; simp at h9; omega); clear hown2 hgrow2))
          have B4 := Lib.hid (OthersKept.below B3.out (one_kept w4 w.heap.size 5 (.slice b3 m3 c3)) (fun j hj e => by omega))
          have O4 := Lib.hid (own_set_far (g := w.heap.size) (i := 5) (u := .slice b3 m3 c3) O3.out (fun j hj => by have := (O3.out.lt j hj).1; omega))
          have P0 := Lib.hid (Q2.out.set5 (.slice b3 m3 c3))
          have P1 := Lib.hid (Q3.out.kept (one_kept w4 w.heap.size 5 (.slice b3 m3 c3)) (by omega))
          clear O3 x0 x1 x2 x3 x4 x5 y0 y1 y2 y3 y4 y5 z0 z1 z2 z3 z4 z5 f0 f1 f2 f3 f4 f5
          generalize w4.setCell ⟨w.heap.size, 5, none⟩ (.slice b3 m3 c3) = w5 at *
          refine (CS.out (.slice b3 m3 c3) _ (texts_own O4.out).1).mono ?_
          rintro e w6 ⟨v6, rfl, _, hb6⟩
          have B6 := Lib.hid (below_then B4.out hb6)
          have O6 := Lib.hid (own_below O4.out hb6)
          have Q6 := Lib.hid (P0.out.below hb6)
          have Q7 := Lib.hid (P1.out.below hb6)
          clear hb6 P0 P1
          cases K with
          | none =>
            have HR := Lib.hid (G3.out rfl)
            obtain ⟨y0, y1, y2, y3, y4, y5, y6⟩ := Q7.out.cells
            obtain ⟨f0, f1, f2, f3, f4, f5⟩ := Q7.out.fr
            have XB := Lib.hid (Q7.out.put 0 0 0 0 0 (.slice none 0 0))
            have XK := Lib.hid (OthersKept.below B6.out (setPg_kept w6 (w.heap.size + 1) 0 0 0 0 0 (.slice none 0 0)) (fun k hk e => by omega))
            go_wp2_with fail
            refine bodyPost_ret (v := .tuple #[.agg #[.int .u8 (0 : Nat), .int .u8 (0 : Nat), .int .u32 (0 : Nat), .int .u64 (0 : Nat), .int .u32 (0 : Nat), .slice none 0 0], .int .i64 7]) (results_pg (p := 8) (u := 9) (by kernel_rfl) _ _ rfl XB.out) rfl ?_
            exact PgPost.no HR.out XK.out
          | some ks =>
            have HR := Lib.hid (G4.out ks rfl)
            obtain ⟨x0, x1, x2, x3, x4, x5, x6⟩ := Q6.out.cells
            obtain ⟨y0, y1, y2, y3, y4, y5, y6⟩ := Q7.out.cells
            obtain ⟨f0, f1, f2, f3, f4, f5⟩ := Q7.out.fr
            have XB := Lib.hid (Q7.out.put kind level id lsn next (.slice b3 m3 c3))
            have hk6 := setPg_kept w6 (w.heap.size + 1) kind level id lsn next (.slice b3 m3 c3)
            have XK := Lib.hid (OthersKept.below B6.out hk6 (fun k hk e => by omega))
            have XO := Lib.hid (texts_own (hk6.owns O6.out (fun j hj e => by have := (O6.out.lt j hj).1; omega))).1
            clear hk6
            go_wp2_with fail
            refine bodyPost_ret (v := .tuple #[.agg #[.int .u8 kind, .int .u8 level, .int .u32 id, .int .u64 lsn, .int .u32 next, .slice b3 m3 c3], .int .i64 0]) (results_pg (p := 8) (u := 9) (by kernel_rfl) _ _ rfl XB.out) rfl ?_
            exact ⟨.slice b3 m3 c3, by have h := HR.out; subst h; rfl, by have h := HR.out; subst h; exact XO.out, XK.out⟩

end Go.Proofs.Ytjcfnfpilladfaa
