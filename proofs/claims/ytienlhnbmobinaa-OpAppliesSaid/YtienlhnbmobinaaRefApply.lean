/- ref11.Apply by applyB -/
import Derived.Test.YtienlhnbmobinaaRows
import Derived.Test.YtienlhnbmobinaaOpApply
import Derived.Test.YtienlhnbmobinaaPgStore
import Derived.Test.YtienlhnbmobinaaOpRedo11
import Derived.Test.YtienlhnbmobinaaRefSet01
import Derived.Test.YtienlhnbmobinaaRefMay11
import Derived.Test.YtienlhnbmobinaaOpDoes
import Derived.Test.YtienlhnbmobinaaOpLaw
import Derived.Test.YtienlhnbmobinaaOpEnc
import Derived.Test.YtienlhnbmobinaaOpPlain
import Derived.Test.YtienlhnbmobinaaOpPart
import Derived.Test.YtienlhnbmobinaaTextsMove
import Derived.Test.YtienlhnbmobinaaTextsBack
import Derived.Test.YtienlhnbmobinaaTextsP
import Derived.Test.YtienlhnbmobinaaPlains
import Derived.Test.YtienlhnbmobinaaBase
import Derived.Test.YtienlhnbmobinaaNodeWeigh
import Derived.Deep.CutBlock
import Derived.WalkKit
import Derived.WalkLawsBesides
import Derived.WalkSpells
import Derived.LoopTactic
import Derived.WalkMore
import Derived.LoopN
import Derived.Laws.BitsAllLaws
import Derived.Laws.IdiomStrings
import Derived.BigQuiet
import Derived.Deep.QuietTactic
import Derived.Deep.DeepCutAuto
import Derived.Deep.RegionHeld3
import Derived.Deep.DrawnRows
import Derived.Lib.Hide
import Derived.Outline
import Derived.Deep.DeepMust
import Derived.Handy
namespace Go.Proofs.Ytienlhnbmobinaa
open Go.RowKit
set_option linter.unusedVariables false
set_option linter.unusedSimpArgs false

theorem may_at0 {o : Od} (h : o.may = true) (hk : o.kind = 6 ∨ o.kind = 7) : o.at_ = 0 := by
  unfold Od.may at h
  rw [Bool.and_eq_true, Bool.and_eq_true, Bool.and_eq_true, decide_eq_true_eq, decide_eq_true_eq, decide_eq_true_eq, decide_eq_true_eq] at h
  have h1 := h.2.2.2
  obtain ⟨k, page, at_, off, text, rows, pk, lv, nx⟩ := o
  simp only at hk
  rcases hk with rfl | rfl <;> (simp only [Od.only, Od.mk.injEq] at h1; exact h1.2.2.1)
/-- Is the place outside? -/
def farB (n : Nat) (o : Od) : Bool := decide (o.kind ≠ 1) && (decide (n < o.at_.toNat) || (decide (o.at_.toNat = n) && decide (o.kind = 3 ∨ o.kind = 4 ∨ o.kind = 8)))
theorem far_do {p : Pg} {o : Od} (hm : o.may = true) (h : farB p.rows.length o = true) : (doB p o).2 = 3 := by
  have hk := (may_bounds hm).1
  have h0 := fun hx => may_at0 hm hx
  obtain ⟨k, page, at_, off, text, rows, pk, lv, nx⟩ := o
  simp only at hk h0
  unfold farB at h
  simp only [Bool.and_eq_true, Bool.or_eq_true, decide_eq_true_eq] at h
  obtain ⟨h1, h2⟩ := h
  rcases kinds hk with rfl | rfl | rfl | rfl | rfl | rfl | rfl | rfl
  · exact absurd rfl h1
  · simp only [doB]; rw [if_neg (by omega)]
  · simp only [doB]; rw [if_neg (by omega)]
  · simp only [doB]; rw [if_neg (by omega)]
  · simp only [doB]; rw [if_neg (by omega)]
  · have := h0 (.inl rfl); subst this; simp at h2
  · have := h0 (.inr rfl); subst this; simp at h2
  · simp only [doB]; rw [if_neg (by omega)]
theorem near_do {p : Pg} {o : Od} (hm : o.may = true) (h : farB p.rows.length o = false) : (o.kind ≠ 1 → o.at_.toNat ≤ p.rows.length) ∧ ((o.kind = 3 ∨ o.kind = 4 ∨ o.kind = 8) → o.at_.toNat < p.rows.length) := by
  unfold farB at h
  by_cases h1 : o.kind = 1
  · exact ⟨fun h => absurd h1 h, fun h => by omega⟩
  · rw [decide_eq_true h1, Bool.true_and, Bool.or_eq_false_iff, decide_eq_false_iff_not, Bool.and_eq_false_iff, decide_eq_false_iff_not, decide_eq_false_iff_not] at h
    refine ⟨fun _ => by omega, fun h9 => ?_⟩
    rcases h.2 with h2 | h2
    · omega
    · exact absurd h9 h2
theorem patched_any (l : List UInt8) (f : Nat) (t : List UInt8) (w : World) (hl : l.length ≤ 1000000) (hf : f ≤ 1000000) (ht : t.length ≤ 1000000) :
    Calls Try.prog 87 #[.string ⟨l.toArray⟩, .int .i64 f, .string ⟨t.toArray⟩] w fun e w' => e = .returned (.tuple #[.string ⟨((setB l f t).getD []).toArray⟩, .bool (setB l f t).isSome]) ∧ Below w.heap.size w w' := by
  have S := Lib.hid fun W => refSet01_any l f t W hl hf ht
  generalize setB l f t = R at *
  generalize R.getD [] = r at *
  generalize R.isSome = b at *
  go_enter Try.func87, Try.ntmps87
  go_wp2_with fail
  refine (S.out _).mono ?_
  rintro e w1 ⟨rfl, hb⟩
  have HB := Lib.hid hb
  clear hb
  go_wp2_with fail
  go_ret2
  exact ⟨rfl, HB.out⟩
set_option maxHeartbeats 4000000 in
set_option maxRecDepth 100000 in
theorem refApply_any (p : Pg) (o : Od) (sv tv : Value) (lsn : Nat) (w : World) (ht : TextsAt w sv p.rows) (hu : TextsAt w tv o.rows) (hp : p.wf) (hw : o.wf) (hs : o.small) (hl : lsn < 256 ^ 8) (hb : weightB p.rows ≤ 1000000) (hn : p.rows.length ≤ 900000) :
    Calls Try.prog 20 #[pgV p sv, odV o tv, .int .u64 lsn] w (PgPost w (applyB p o lsn)) := by
  have HT := Lib.hid fun W (hB : Below w.heap.size w W) => ht.below hB
  have HU := Lib.hid fun W (hB : Below w.heap.size w W) => hu.below hB
  have MY := Lib.hid fun W (hB : Below w.heap.size w W) => refMay11_any o tv W (hu.below hB) hs
  have PM := Lib.hid fun W (hB : Below w.heap.size w W) => refMay06_any p sv W hp (ht.below hB) hb
  have HP := Lib.hid hp
  have HW := Lib.hid hw
  have HS := Lib.hid hs
  obtain ⟨R, hR⟩ : ∃ R, R = applyB p o lsn := ⟨_, rfl⟩
  rw [← hR]
  have HR := Lib.hid hR
  obtain ⟨ok, hok⟩ : ∃ b, b = doOk p o := ⟨_, rfl⟩
  have HOK := Lib.hid hok
  clear hR hok hp hw hs
  obtain ⟨A, cp, rfl, _⟩ := ht
  obtain ⟨A2, cp2, rfl, _⟩ := hu
  obtain ⟨n, hnn⟩ : ∃ n, n = p.rows.length := ⟨_, rfl⟩
  obtain ⟨m, hmm⟩ : ∃ m, m = o.rows.length := ⟨_, rfl⟩
  rw [← hnn] at HT PM ⊢
  rw [← hmm] at HU MY ⊢
  have HN := Lib.hid hnn
  have HM := Lib.hid hmm
  rw [← hnn] at hn
  clear hnn hmm
  obtain ⟨W1, hW1⟩ : ∃ W, W = w.alloc (.cells #[.int .u8 p.kind, .int .u8 p.level, .int .u32 p.id, .int .u64 p.lsn, .int .u32 p.next, .slice A n cp] 26) := ⟨_, rfl⟩
  obtain ⟨W2, hW2⟩ : ∃ W, W = W1.alloc (.cells #[.int .u8 o.kind, .int .u32 o.page, .int .i64 o.at_, .int .i64 o.off, .string ⟨o.text.toArray⟩, .slice A2 m cp2, .int .u8 o.pk, .int .u8 o.lv, .int .u32 o.nx] 28) := ⟨_, rfl⟩
  obtain ⟨W3, hW3⟩ : ∃ W, W = W2.alloc (.cells #[.int .u8 0, .int .u8 0, .int .u32 0, .int .u64 0, .int .u32 0, .slice none 0 0] 26) := ⟨_, rfl⟩
  have hz1 : W1.heap.size = w.heap.size + 1 := by rw [hW1]; simp
  have hz2 : W2.heap.size = w.heap.size + 2 := by rw [hW2]; simp [hz1]
  have hz3 : W3.heap.size = w.heap.size + 3 := by rw [hW3]; simp [hz2]
  have b1 : Below w.heap.size w W1 := by rw [hW1]; exact alloc_below _ _
  have b2 : Below W1.heap.size W1 W2 := by rw [hW2]; exact alloc_below _ _
  have b3 : Below W2.heap.size W2 W3 := by rw [hW3]; exact alloc_below _ _
  have B3 := Lib.hid (below_then (below_then b1 b2) (b3.mono (by omega)))
  have P3 : PgBox W3 w.heap.size p.kind p.level p.id p.lsn p.next (.slice A n cp) := by
    have h : PgBox W1 w.heap.size p.kind p.level p.id p.lsn p.next (.slice A n cp) := by rw [hW1]; exact PgBox.new _ _ _ _ _ _ _
    exact (h.below b2).below b3
  have O3 : OAt W3 (w.heap.size + 1) o (.slice A2 m cp2) := by
    have h : OAt W2 (w.heap.size + 1) o (.slice A2 m cp2) := by rw [hW2, ← hz1]; exact heap_alloc_new _ _
    exact h.below b3
  have R3 : PgBox W3 (w.heap.size + 1 + 1) 0 0 0 0 0 (.slice none 0 0) := by rw [show w.heap.size + 1 + 1 = W2.heap.size by omega, hW3]; exact PgBox.new _ _ _ _ _ _ _
  have hWW : w.alloc (.cells #[.int .u8 p.kind, .int .u8 p.level, .int .u32 p.id, .int .u64 p.lsn, .int .u32 p.next, .slice A n cp] 26) = W1 := hW1.symm
  unfold odV at MY ⊢
  unfold pgV at PM ⊢
  go_enter Try.func20, Try.ntmps20
  clear b1 b2 b3 hWW
  go_upto_region 1 with fail
  rw [← hW1, ← hW2, ← hW3]
  have hZ3 := Lib.hid hz3
  clear hW1 hW2 hW3 hz1 hz2 hz3 W1 W2
  have P3 := Lib.hid P3
  have O3 := Lib.hid O3
  have R3 := Lib.hid R3
  have hgl : w.heap.size + 1 + 1 < W3.heap.size := by rw [hZ3.out]; omega
  obtain ⟨_, p0, p1, p2, p3, p4, p5⟩ := P3.out.cells
  obtain ⟨x0, x1, x2, x3, x4, x5, x6, x7, x8⟩ := O3.out.cells
  go_cut [31] (fun s w' => s = .bool (!ok) ∧ Hid (Below W3.heap.size W3 w'))
  case first =>
    as_aux_lemma =>
      go_wp2_with fail
      refine (MY.out _ B3.out).mono ?_
      rintro e W4 ⟨rfl, hb4⟩
      have B4 := Lib.hid (below_then B3.out hb4)
      have HB4 := Lib.hid hb4
      have P4 := P3.out.below hb4
      have O4 := O3.out.below hb4
      clear p0 p1 p2 p3 p4 p5 x0 x1 x2 x3 x4 x5 x6 x7 x8
      obtain ⟨_, p0, p1, p2, p3, p4, p5⟩ := P4.cells
      obtain ⟨x0, x1, x2, x3, x4, x5, x6, x7, x8⟩ := O4.cells
      clear hb4 P4 O4
      cases hm : o.may with
      | false =>
        have HX : Hid (ok = false) := by show _ = _; rw [HOK.out]; unfold doOk; rw [hm]; rfl
        clear hm
        go_wp2_with fail
        go_meet
        exact ⟨by rw [HX.out]; rfl, HB4⟩
      | true =>
        by_cases hk : o.kind = 1
        · have hki : ((o.kind : Int) != 1) = false := by simp; omega
          have HX : Hid (ok = true) := by show _ = _; rw [HOK.out]; unfold doOk; rw [hm, decide_eq_true hk]; rfl
          clear hm hk
          go_wp2_with fail
          go_meet
          exact ⟨by rw [HX.out]; rfl, HB4⟩
        · have hki : ((o.kind : Int) != 1) = true := by simp; omega
          have HX : Hid (ok = (p.may && decide (p.id = o.page))) := by show _ = _; rw [HOK.out]; unfold doOk; rw [hm, decide_eq_false hk]; simp
          clear hm hk
          go_wp2_with fail
          refine (PM.out _ B4.out).mono ?_
          rintro e W5 ⟨rfl, hb5⟩
          have HB5 := Lib.hid (below_then HB4.out hb5)
          replace p2 := keep_cell hb5 p2
          replace x1 := keep_cell hb5 x1
          clear hb5 p0 p1 p3 p4 p5 x0 x2 x3 x4 x5 x6 x7 x8
          cases hm2 : p.may with
          | false =>
            have HX2 : Hid (ok = false) := by show _ = _; rw [HX.out, hm2]; rfl
            clear hm2 HX
            go_wp2_with fail
            go_meet
            exact ⟨by rw [HX2.out]; rfl, HB5⟩
          | true =>
            by_cases hid : p.id = o.page
            · have hid2 : ((p.id : Int) != (o.page : Int)) = false := by simp; omega
              have HX2 : Hid (ok = true) := by show _ = _; rw [HX.out, hm2, decide_eq_true hid]; rfl
              clear hm2 HX hid
              go_wp2_with fail
              go_meet
              exact ⟨by rw [HX2.out]; rfl, HB5⟩
            · have hid2 : ((p.id : Int) != (o.page : Int)) = true := by simp; omega
              have HX2 : Hid (ok = false) := by show _ = _; rw [HX.out, hm2, decide_eq_false hid]; rfl
              clear hm2 HX hid
              go_wp2_with fail
              go_meet
              exact ⟨by rw [HX2.out]; rfl, HB5⟩
  case rest =>
    obtain ⟨hs9, HC⟩ := hcut
    subst hs9
    have P4 := Lib.hid (P3.out.below HC.out)
    have O4 := Lib.hid (O3.out.below HC.out)
    have R4 := Lib.hid (R3.out.below HC.out)
    have B4 := Lib.hid (below_then B3.out HC.out)
    have hgl4 : w.heap.size + 1 + 1 < wc.heap.size := Nat.lt_of_lt_of_le hgl HC.out.size
    clear p0 p1 p2 p3 p4 p5 x0 x1 x2 x3 x4 x5 x6 x7 x8 P3 O3 R3 B3 HC hgl MY
    cases ok with
    | false =>
     as_aux_lemma =>
      have HX : Hid (R = (Pg.zero, 2)) := by show _ = _; rw [HR.out]; unfold applyB; rw [if_neg (by rw [← HOK.out]; decide)]
      clear HOK HR
      go_upto_region 2 with fail
      go_cut [7] (fun s7 w' => s7 = .int .i64 2 ∧ Hid (PgBox w' (w.heap.size + 1 + 1) 0 0 0 0 0 (.slice none 0 0)) ∧ Hid (Below w.heap.size w w'))
      case first =>
        go_wp2_with (refine wpList_store_pg rfl (.tmp 6) (.tmp 32) rfl R4.out 0 0 0 0 0 none 0 0 (by rfl) (by rfl) ?_; intro wD hPD hKD; have XB := Lib.hid hPD; have XK := Lib.hid (OthersKept.below B4.out hKD (fun k hk e => by omega)); clear hPD hKD)
        go_meet
        exact ⟨rfl, XB, XK⟩
      case rest =>
      obtain ⟨rfl, XB, XK⟩ := hcut
      refine (show ∀ (a : Act) (w : World), Code.wp _ Code.ret _ a w → _ from by assumption) _ _ ?_
      apply wp_ret
      refine bodyPost_ret (v := .tuple #[.agg #[.int .u8 (0 : Nat), .int .u8 (0 : Nat), .int .u32 (0 : Nat), .int .u64 (0 : Nat), .int .u32 (0 : Nat), .slice none 0 0], .int .i64 2]) (results_pg (p := 6) (u := 7) (by kernel_rfl) _ _ rfl XB.out) rfl ?_
      exact PgPost.no HX.out XK.out
    | true =>
      obtain ⟨_, p0, p1, p2, p3, p4, p5⟩ := P4.out.cells
      have hmay : o.may = true := by
        have h := HOK.out
        unfold doOk at h
        cases hm : o.may with
        | true => rfl
        | false => rw [hm] at h; cases h
      have hkm : o.kind = 1 ∨ p.may = true := by
        have h := HOK.out
        unfold doOk at h
        by_cases hk : o.kind = 1
        · exact .inl hk
        · rw [hmay, decide_eq_false hk] at h
          simp at h
          exact .inr h.1
      have hwt := doB_ok p o HP.out HW.out hmay hkm
      have HWT := Lib.hid hwt
      have her := doB_err p o
      have HER := Lib.hid her
      have HMAY := Lib.hid hmay
      have HKM := Lib.hid hkm
      have HRR : Hid (R = if (doB p o).2 = 0 then (if ((doB p o).1.lsnTo lsn).may = true then ((doB p o).1.lsnTo lsn, 0) else (Pg.zero, 4)) else (Pg.zero, (doB p o).2)) := by
        show _ = _
        rw [HR.out]
        unfold applyB
        rw [if_pos HOK.out.symm]
      have hfar := far_do (p := p) hmay
      have hnear := near_do (p := p) hmay
      rw [← HN.out] at hfar hnear
      have HFAR := Lib.hid hfar
      have HNEAR := Lib.hid hnear
      have hbo := may_bounds hmay
      have HU4 := Lib.hid (HU.out wc B4.out)
      have HT4 := Lib.hid (HT.out wc B4.out)
      clear hmay hkm hwt her HOK HR HS HW HP HU HT hfar hnear
      obtain ⟨Q, hQ⟩ : ∃ Q, Q = doB p o := ⟨_, rfl⟩
      rw [← hQ] at HWT HER HRR HFAR
      have HQ := Lib.hid hQ
      clear hQ
      obtain ⟨kind, level, id, plsn, next, rows⟩ := p
      obtain ⟨ok, page, oat, ooff, text, orows, pk, lv, nx⟩ := o
      obtain ⟨hk, hpg, hnx, hpk, hat, hoff, hrl, hll⟩ := hbo
      simp only at *
      obtain ⟨a, rfl⟩ : ∃ a : Nat, oat = a := ⟨oat.toNat, by omega⟩
      obtain ⟨f, rfl⟩ : ∃ f : Nat, ooff = f := ⟨ooff.toNat, by omega⟩
      have ha8 : a ≤ 488 := by omega
      have hf8 : f ≤ 488 := by omega
      have htl8 : text.length ≤ 1000000 := by omega
      obtain ⟨x0, x1, x2, x3, x4, x5, x6, x7, x8⟩ := O4.out.cells
      simp only at x0 x1 x2 x3 x4 x5 x6 x7 x8
      obtain ⟨wq, hwq⟩ : ∃ x, x = wc := ⟨_, rfl⟩
      subst hwq
      obtain ⟨far, hfr⟩ : ∃ b, b = farB n ⟨ok, page, a, f, text, orows, pk, lv, nx⟩ := ⟨_, rfl⟩
      have HFR := Lib.hid hfr
      rw [← hfr] at HFAR HNEAR
      clear hfr hpg hnx hpk hat hoff hll
      go_upto_region 4 with fail
      have BQ := Lib.hid (Below.refl wq.heap.size wq)
      go_cut [65] (fun s w' => s = .bool far ∧ Hid (Below wq.heap.size wq w'))
      case first =>
        have hfr := HFR.out
        clear HFR HWT HER HRR HFAR HNEAR HQ HMAY HKM HU4 HT4 HN HM
        as_aux_lemma =>
          by_cases h1 : ok = 1
          · subst h1
            have HX : Hid (far = false) := by show _ = _; rw [hfr]; rfl
            clear hfr 
            go_wp2_with fail
            go_meet
            exact ⟨by rw [HX.out], BQ⟩
          · have h1i : ((ok : Int) != 1) = true := by simp; omega
            by_cases h2 : n < a
            · have h2i : (n : Int) < (a : Int) := by omega
              have HX : Hid (far = true) := by show _ = _; rw [hfr]; unfold farB; simp [h1, h2]
              clear hfr h1 h2
              go_wp2_with fail
              go_meet
              exact ⟨by rw [HX.out], BQ⟩
            · have h2i : ¬ (n : Int) < (a : Int) := by omega
              by_cases h3 : a = n
              · have h3i : ((a : Int) == (n : Int)) = true := by simp; omega
                by_cases k3 : ok = 3
                · subst k3
                  have HX : Hid (far = true) := by show _ = _; rw [hfr]; unfold farB; simp [h2, h3]
                  clear hfr h1 h2 h3
                  go_wp2_with fail
                  go_meet
                  exact ⟨by rw [HX.out], BQ⟩
                · by_cases k4 : ok = 4
                  · subst k4
                    have HX : Hid (far = true) := by show _ = _; rw [hfr]; unfold farB; simp [h2, h3]
                    clear hfr h1 h2 h3
                    go_wp2_with fail
                    go_meet
                    exact ⟨by rw [HX.out], BQ⟩
                  · by_cases k8 : ok = 8
                    · subst k8
                      have HX : Hid (far = true) := by show _ = _; rw [hfr]; unfold farB; simp [h2, h3]
                      clear hfr h1 h2 h3
                      go_wp2_with fail
                      go_meet
                      exact ⟨by rw [HX.out], BQ⟩
                    · have k3i : ((ok : Int) == 3) = false := by simp; omega
                      have k4i : ((ok : Int) == 4) = false := by simp; omega
                      have k8i : ((ok : Int) == 8) = false := by simp; omega
                      have HX : Hid (far = false) := by show _ = _; rw [hfr]; unfold farB; simp [h1, h2, h3, k3, k4, k8]
                      clear hfr h1 h2 h3 k3 k4 k8
                      go_wp2_with fail
                      go_meet
                      exact ⟨by rw [HX.out], BQ⟩
              · have h3i : ((a : Int) == (n : Int)) = false := by simp; omega
                have HX : Hid (far = false) := by show _ = _; rw [hfr]; unfold farB; simp [h1, h2, h3]
                clear hfr h1 h2 h3
                go_wp2_with fail
                go_meet
                exact ⟨by rw [HX.out], BQ⟩
      case rest =>
        obtain ⟨hs9, HC⟩ := hcut
        subst hs9
        have P5 := Lib.hid (P4.out.below HC.out)
        have O5 := Lib.hid (O4.out.below HC.out)
        have R5 := Lib.hid (R4.out.below HC.out)
        have B5 := Lib.hid (below_then B4.out HC.out)
        have HU5 := Lib.hid (HU4.out.below HC.out)
        have HT5 := Lib.hid (HT4.out.below HC.out)
        have hgl5 : w.heap.size + 1 + 1 < wc.heap.size := Nat.lt_of_lt_of_le hgl4 HC.out.size
        clear p0 p1 p2 p3 p4 p5 x0 x1 x2 x3 x4 x5 x6 x7 x8 P4 O4 R4 B4 HC HU4 HT4 hgl4 HFR BQ
        cases far with
        | true =>
         as_aux_lemma =>
          have HX : Hid (R = (Pg.zero, 3)) := by show _ = _; rw [HRR.out, HFAR.out rfl]; rfl
          clear HRR HFAR HNEAR HER HWT HQ
          go_upto_region 5 with fail
          go_cut [7] (fun s7 w' => s7 = .int .i64 3 ∧ Hid (PgBox w' (w.heap.size + 1 + 1) 0 0 0 0 0 (.slice none 0 0)) ∧ Hid (Below w.heap.size w w'))
          case first =>
            go_wp2_with (refine wpList_store_pg rfl (.tmp 6) (.tmp 66) rfl R5.out 0 0 0 0 0 none 0 0 (by rfl) (by rfl) ?_; intro wD hPD hKD; have XB := Lib.hid hPD; have XK := Lib.hid (OthersKept.below B5.out hKD (fun k hk e => by omega)); clear hPD hKD)
            go_meet
            exact ⟨rfl, XB, XK⟩
          case rest =>
          obtain ⟨rfl, XB, XK⟩ := hcut
          refine (show ∀ (a : Act) (w : World), Code.wp _ Code.ret _ a w → _ from by assumption) _ _ ?_
          apply wp_ret
          refine bodyPost_ret (v := .tuple #[.agg #[.int .u8 (0 : Nat), .int .u8 (0 : Nat), .int .u32 (0 : Nat), .int .u64 (0 : Nat), .int .u32 (0 : Nat), .slice none 0 0], .int .i64 3]) (results_pg (p := 6) (u := 7) (by kernel_rfl) _ _ rfl XB.out) rfl ?_
          exact PgPost.no HX.out XK.out
        | false =>
          obtain ⟨wq, hwq⟩ : ∃ x, x = wc := ⟨_, rfl⟩
          subst hwq
          obtain ⟨_, p0, p1, p2, p3, p4, p5⟩ := P5.out.cells
          obtain ⟨x0, x1, x2, x3, x4, x5, x6, x7, x8⟩ := O5.out.cells
          simp only at x0 x1 x2 x3 x4 x5 x6 x7 x8
          obtain ⟨i0, hif, hz0, hz1, hz2⟩ := info_parts Try.infoStrM
          have HI := Lib.hid hif
          have HI0 := Lib.hid hz0
          have HI1 := Lib.hid hz1
          have HI2 := Lib.hid hz2
          clear hif hz0 hz1 hz2 HFAR
          have TA := Lib.hid (HT5.out.below (alloc_below wq (.cells #[] 9))).reads
          rw [← HN.out] at TA
          go_upto_block 0 with (at_builtin; refine wpList_append_any _ rfl _ _ 24 rfl wq.heap.size 9 i0 (.string ⟨#[]⟩) 1 16 Try.underlying24 HI.out HI0.out HI1.out HI2.out rfl (by decide) (.slice (some ⟨wq.heap.size, 0, none⟩) 0 0) 0 [] (by rfl) (World.ownsRow_made wq #[] 0 (Nat.le_refl _) (by unfold maxLen; omega) rfl) (.slice A n cp) n (strs rows) (by rfl) TA.out (strs_oneCell _) (by unfold maxLen; omega) (by omega) (by simp) ?_; intro v2 w2 hown2 hgrow2; simp only [Nat.zero_add, List.nil_append] at hown2; have HB2 := Lib.hid ((alloc_below wq (.cells #[] 9)).grown hgrow2 (by simp) (fun j hj => by simp [Value.ownBlock] at hj; omega)); have HO2 := Lib.hid hown2; obtain ⟨b2, c2, hv2, hc21, hc22, _⟩ := own_form hown2; subst hv2; have P6 := Lib.hid (P5.out.below HB2.out); have O6 := Lib.hid (O5.out.below HB2.out); have R6 := Lib.hid (R5.out.below HB2.out); have B6 := Lib.hid (below_then B5.out HB2.out); have HU6 := Lib.hid (HU5.out.below HB2.out); have HT6 := Lib.hid (HT5.out.below HB2.out); have hgl6 : wq.heap.size ≤ w2.heap.size := HB2.out.size; clear hown2 hgrow2 p0 p1 p2 p3 p4 p5 x0 x1 x2 x3 x4 x5 x6 x7 x8 TA; obtain ⟨_, p0, p1, p2, p3, p4, p5⟩ := P6.out.cells; obtain ⟨x0, x1, x2, x3, x4, x5, x6, x7, x8⟩ := O6.out.cells; simp only at x0 x1 x2 x3 x4 x5 x6 x7 x8)
          clear P5 O5 R5 B5 HU5 HT5 HB2
          go_cut [9] (fun s9 wr => ∃ (b : Option Addr) (k c : Nat) (sb : Option Addr) (sn sc : Nat), s9 = .slice b k c ∧ Hid (k = Q.1.rows.length ∧ Q.2 = 0) ∧ Hid (TextsAt wr (.slice b k c) Q.1.rows) ∧ Hid (PgBox wr w.heap.size Q.1.kind Q.1.level Q.1.id Q.1.lsn Q.1.next (.slice sb sn sc)) ∧ Hid (PgBox wr (w.heap.size + 1 + 1) 0 0 0 0 0 (.slice none 0 0)) ∧ Hid (Below w.heap.size w wr))
          case first =>
            rcases kinds hk with rfl | rfl | rfl | rfl | rfl | rfl | rfl | rfl
            · as_aux_lemma =>
                have HQ1 : Hid (Q = (⟨pk, lv, page, 0, nx, []⟩, 0)) := HQ.out
                clear HQ HWT HER HRR HMAY HKM HNEAR HO2 HU6 HT6
                go_wp2_with (refine wpList_store_pg rfl (.tmp 3) (.tmp 83) rfl P6.out pk lv page 0 nx none 0 0 (by rfl) (by rfl) ?_; intro wD hPD hKD; have XP := Lib.hid hPD; have XK := Lib.hid hKD; clear hPD hKD)
                go_meet
                rw [HQ1.out]
                exact ⟨none, 0, 0, none, 0, 0, rfl, Lib.hid ⟨rfl, rfl⟩, Lib.hid (TextsAt.nil _), XP, Lib.hid (R6.out.kept XK.out (by omega)), Lib.hid (OthersKept.below B6.out XK.out (fun k' hk' e => absurd (show k' = w.heap.size from e) (by omega)))⟩
            · as_aux_lemma =>
                have hle := (HNEAR.out rfl).1 (by decide)
                have han : a ≤ n := by simpa using hle
                have hacp : a ≤ cp := by have := HT6.out.cap.1; omega
                have hanle : (a : Int) ≤ (n : Int) := by omega
                have ha0 : (0 : Int) ≤ (a : Int) := by omega
                have hal : a ≤ rows.length := by rw [← HN.out]; exact han
                have HQ1 : Hid (Q = (⟨kind, level, id, plsn, next, rows.take a ++ [text] ++ rows.drop a⟩, 0)) := by
                  show _ = _
                  rw [HQ.out]
                  show (if ((a : Nat) : Int).toNat ≤ rows.length then ((Pg.mk kind level id plsn next (putRows rows ((a : Nat) : Int).toNat text false)), (0 : Int)) else _) = _
                  rw [if_pos (by simpa using hal)]
                  simp [putRows]
                have HLA : Hid (a = (rows.take a).length) := by
                  show _ = _
                  rw [List.length_take]; omega
                have HLN : Hid (a + 1 + (n - a) = (rows.take a ++ [text] ++ rows.drop a).length) := by
                  show _ = _
                  rw [HN.out]; simp; omega
                have HTA := Lib.hid (HT6.out.take a cp (by omega) (by omega) (Nat.le_refl _))
                obtain ⟨tA, htA⟩ : ∃ x, (if cp = a then A else Option.map (fun x => x.add a) A) = x := ⟨_, rfl⟩
                have hw2 : w.heap.size + 1 < w2.heap.size := by omega
                clear HQ HWT HER HRR HMAY HKM HNEAR HU6 hle hal
                have KS := Lib.hid fun W W' (hb : Below W.heap.size W W') (h : W.cell? ⟨w.heap.size, 5, none⟩ = some (.slice A n cp) ∧ W.cell? ⟨w.heap.size + 1, 2, none⟩ = some (.int .i64 (a : Int)) ∧ W.cell? ⟨w.heap.size + 1, 4, none⟩ = some (.string ⟨text.toArray⟩)) => (⟨keep_cell hb h.1, keep_cell hb h.2.1, keep_cell hb h.2.2⟩ : W'.cell? ⟨w.heap.size, 5, none⟩ = some (.slice A n cp) ∧ W'.cell? ⟨w.heap.size + 1, 2, none⟩ = some (.int .i64 (a : Int)) ∧ W'.cell? ⟨w.heap.size + 1, 4, none⟩ = some (.string ⟨text.toArray⟩))
                have KO := Lib.hid fun W W' (hb : OthersKept W W' (fun x => w2.heap.size ≤ x)) (h : W.cell? ⟨w.heap.size, 5, none⟩ = some (.slice A n cp) ∧ W.cell? ⟨w.heap.size + 1, 2, none⟩ = some (.int .i64 (a : Int)) ∧ W.cell? ⟨w.heap.size + 1, 4, none⟩ = some (.string ⟨text.toArray⟩)) => (⟨hb.cell h.1 (fun e => absurd (show w2.heap.size ≤ w.heap.size from e) (by omega)), hb.cell h.2.1 (fun e => absurd (show w2.heap.size ≤ w.heap.size + 1 from e) (by omega)), hb.cell h.2.2 (fun e => absurd (show w2.heap.size ≤ w.heap.size + 1 from e) (by omega))⟩ : W'.cell? ⟨w.heap.size, 5, none⟩ = some (.slice A n cp) ∧ W'.cell? ⟨w.heap.size + 1, 2, none⟩ = some (.int .i64 (a : Int)) ∧ W'.cell? ⟨w.heap.size + 1, 4, none⟩ = some (.string ⟨text.toArray⟩))
                go_upto_region 12 with fail
                refine wp_region_held_drew (S := fun W => W.cell? ⟨w.heap.size, 5, none⟩ = some (.slice A n cp) ∧ W.cell? ⟨w.heap.size + 1, 2, none⟩ = some (.int .i64 (a : Int)) ∧ W.cell? ⟨w.heap.size + 1, 4, none⟩ = some (.string ⟨text.toArray⟩)) (by kernel_rfl) (KS.out _ _ ((Below.refl _ _).drew) ⟨p5, x2, x4⟩) (fun hHeld => ?_)
                refine wpAnyH_take (i := 1) (oi := { dst := some 87, op := Go.Op.fieldAddr 26 (Go.Operand.tmp 3) 5, type := 0, pos := "ref.go:216", after := #[], guard := none }) (v := ?_) rfl (by kernel_rfl) (by kernel_rfl) (by kernel_rfl) (fun _ _ _ h => h) (Or.inl ⟨by rfl, ?_⟩) hHeld ?_
                rotate_left
                · (intro w hSw; go_simp <;> with_reducible rfl)
                simp only [Act.put, List.setIfInBounds_toArray, List.set_cons_zero, List.set_cons_succ]
                refine wpAnyH_take (i := 2) (oi := { dst := some 88, op := Go.Op.load 24 (Go.Operand.tmp 87), type := 24, pos := "ref.go:216", after := #[{ on := 1, ground := Go.Ground.data }], guard := none }) (v := ?_) rfl (by kernel_rfl) (by kernel_rfl) (by kernel_rfl) (fun _ _ _ h => h) (Or.inl ⟨by rfl, ?_⟩) hHeld ?_
                rotate_left
                · (intro w hSw; go_simp <;> with_reducible rfl)
                simp only [Act.put, List.setIfInBounds_toArray, List.set_cons_zero, List.set_cons_succ]
                refine wpAnyH_take (i := 3) (oi := { dst := some 89, op := Go.Op.fieldAddr 28 (Go.Operand.tmp 4) 2, type := 0, pos := "ref.go:216", after := #[], guard := none }) (v := ?_) rfl (by kernel_rfl) (by kernel_rfl) (by kernel_rfl) (fun _ _ _ h => h) (Or.inl ⟨by rfl, ?_⟩) hHeld ?_
                rotate_left
                · (intro w hSw; go_simp <;> with_reducible rfl)
                simp only [Act.put, List.setIfInBounds_toArray, List.set_cons_zero, List.set_cons_succ]
                refine wpAnyH_take (i := 4) (oi := { dst := some 90, op := Go.Op.load 3 (Go.Operand.tmp 89), type := 3, pos := "ref.go:216", after := #[{ on := 3, ground := Go.Ground.data }], guard := none }) (v := ?_) rfl (by kernel_rfl) (by kernel_rfl) (by kernel_rfl) (fun _ _ _ h => h) (Or.inl ⟨by rfl, ?_⟩) hHeld ?_
                rotate_left
                · (intro w hSw; go_simp <;> with_reducible rfl)
                simp only [Act.put, List.setIfInBounds_toArray, List.set_cons_zero, List.set_cons_succ]
                refine wpAnyH_take (i := 5) (oi := { dst := some 91, op := Go.Op.slice 24 (Go.Operand.tmp 88) none (some (Go.Operand.tmp 90)) none, type := 24, pos := "ref.go:216", after := #[{ on := 2, ground := Go.Ground.data }, { on := 4, ground := Go.Ground.data }], guard := none }) (v := ?_) rfl (by kernel_rfl) (by kernel_rfl) (by kernel_rfl) (fun _ _ _ h => h) (Or.inl ⟨by rfl, ?_⟩) hHeld ?_
                rotate_left
                · (intro w hSw; go_simp <;> with_reducible rfl)
                simp only [Act.put, List.setIfInBounds_toArray, List.set_cons_zero, List.set_cons_succ]
                refine wpAnyH_take (i := 7) (oi := { dst := some 93, op := Go.Op.fieldAddr 28 (Go.Operand.tmp 4) 4, type := 0, pos := "ref.go:216", after := #[], guard := none }) (v := ?_) rfl (by kernel_rfl) (by kernel_rfl) (by kernel_rfl) (fun _ _ _ h => h) (Or.inl ⟨by rfl, ?_⟩) hHeld ?_
                rotate_left
                · (intro w hSw; go_simp <;> with_reducible rfl)
                simp only [Act.put, List.setIfInBounds_toArray, List.set_cons_zero, List.set_cons_succ]
                refine wpAnyH_take (i := 8) (oi := { dst := some 94, op := Go.Op.load 9 (Go.Operand.tmp 93), type := 9, pos := "ref.go:216", after := #[{ on := 7, ground := Go.Ground.data }], guard := none }) (v := ?_) rfl (by kernel_rfl) (by kernel_rfl) (by kernel_rfl) (fun _ _ _ h => h) (Or.inl ⟨by rfl, ?_⟩) hHeld ?_
                rotate_left
                · (intro w hSw; go_simp <;> with_reducible rfl)
                simp only [Act.put, List.setIfInBounds_toArray, List.set_cons_zero, List.set_cons_succ]
                refine wpAnyH_take (i := 11) (oi := { dst := some 97, op := Go.Op.fieldAddr 26 (Go.Operand.tmp 3) 5, type := 0, pos := "ref.go:216", after := #[], guard := none }) (v := ?_) rfl (by kernel_rfl) (by kernel_rfl) (by kernel_rfl) (fun _ _ _ h => h) (Or.inl ⟨by rfl, ?_⟩) hHeld ?_
                rotate_left
                · (intro w hSw; go_simp <;> with_reducible rfl)
                simp only [Act.put, List.setIfInBounds_toArray, List.set_cons_zero, List.set_cons_succ]
                refine wpAnyH_take (i := 12) (oi := { dst := some 98, op := Go.Op.load 24 (Go.Operand.tmp 97), type := 24, pos := "ref.go:216", after := #[{ on := 11, ground := Go.Ground.data }], guard := none }) (v := ?_) rfl (by kernel_rfl) (by kernel_rfl) (by kernel_rfl) (fun _ _ _ h => h) (Or.inl ⟨by rfl, ?_⟩) hHeld ?_
                rotate_left
                · (intro w hSw; go_simp <;> with_reducible rfl)
                simp only [Act.put, List.setIfInBounds_toArray, List.set_cons_zero, List.set_cons_succ]
                refine wpAnyH_take (i := 13) (oi := { dst := some 99, op := Go.Op.fieldAddr 28 (Go.Operand.tmp 4) 2, type := 0, pos := "ref.go:216", after := #[], guard := none }) (v := ?_) rfl (by kernel_rfl) (by kernel_rfl) (by kernel_rfl) (fun _ _ _ h => h) (Or.inl ⟨by rfl, ?_⟩) hHeld ?_
                rotate_left
                · (intro w hSw; go_simp <;> with_reducible rfl)
                simp only [Act.put, List.setIfInBounds_toArray, List.set_cons_zero, List.set_cons_succ]
                refine wpAnyH_take (i := 14) (oi := { dst := some 100, op := Go.Op.load 3 (Go.Operand.tmp 99), type := 3, pos := "ref.go:216", after := #[{ on := 13, ground := Go.Ground.data }], guard := none }) (v := ?_) rfl (by kernel_rfl) (by kernel_rfl) (by kernel_rfl) (fun _ _ _ h => h) (Or.inl ⟨by rfl, ?_⟩) hHeld ?_
                rotate_left
                · (intro w hSw; go_simp <;> with_reducible rfl)
                simp only [Act.put, List.setIfInBounds_toArray, List.set_cons_zero, List.set_cons_succ]
                refine wpAnyH_take (i := 15) (oi := { dst := some 101, op := Go.Op.slice 24 (Go.Operand.tmp 98) (some (Go.Operand.tmp 100)) none none, type := 24, pos := "ref.go:216", after := #[{ on := 12, ground := Go.Ground.data }, { on := 14, ground := Go.Ground.data }], guard := none }) (v := ?_) rfl (by kernel_rfl) (by kernel_rfl) (by kernel_rfl) (fun _ _ _ h => h) (Or.inl ⟨by rfl, ?_⟩) hHeld ?_
                rotate_left
                · (intro w hSw; go_simp <;> with_reducible rfl)
                simp only [Act.put, List.setIfInBounds_toArray, List.set_cons_zero, List.set_cons_succ]
                refine wpAnyH_ready (rs := [0, 9]) (by kernel_rfl) (by simp) (AllReadyH.cons (o := { dst := some 86, op := Go.Op.buildSlice 24 0 #[], type := 24, pos := "ref.go:216", after := #[], guard := none }) rfl (fun K hK => ?_) (AllReadyH.cons (o := { dst := some 95, op := Go.Op.buildSlice 24 1 #[(0, Go.Operand.tmp 94)], type := 24, pos := "ref.go:216", after := #[{ on := 8, ground := Go.Ground.data }], guard := none }) rfl (fun K hK => ?_) AllReadyH.nil))
                · go_simp
                  refine hK.out _ _ ?_ (fun hHeld => ?_)
                  · exact KS.out _ _ (alloc_below _ _) hHeld
                  clear hK K
                  (try simp only [Act.put, List.setIfInBounds_toArray, List.set_cons_zero, List.set_cons_succ])
                  refine wpAnyH_ready (rs := [6, 9]) (by kernel_rfl) (by simp) (AllReadyH.cons (o := { dst := some 92, op := Go.Op.call { callee := Go.Callee.builtin Go.Builtin.append, args := #[Go.Operand.tmp 86, Go.Operand.tmp 91], argTypes := #[24, 24] }, type := 24, pos := "ref.go:216", after := #[{ on := 0, ground := Go.Ground.data }, { on := 5, ground := Go.Ground.data }], guard := none }) rfl (fun K hK => ?_) (AllReadyH.cons (o := { dst := some 95, op := Go.Op.buildSlice 24 1 #[(0, Go.Operand.tmp 94)], type := 24, pos := "ref.go:216", after := #[{ on := 8, ground := Go.Ground.data }], guard := none }) rfl (fun K hK => ?_) AllReadyH.nil))
                  · have hb3 : Hid (Below w2.heap.size w2 (w2.drew.alloc (.cells #[] 9))) := Lib.hid ((Below.refl w2.heap.size w2).drew.alloc (Nat.le_refl _) (.cells #[] 9))
                    have O3 : Hid ((w2.drew.alloc (.cells #[] 9)).ownsRow w2.heap.size 9 1 (.slice (some ⟨w2.heap.size, 0, none⟩) 0 0) 0 []) := Lib.hid (by have h := World.ownsRow_made (base := w2.heap.size) (e := 9) (size := 1) w2.drew #[] 0 (Nat.le_refl _) (by unfold maxLen; omega) rfl; simpa using h)
                    have r3 := (HTA.out.below hb3.out).reads
                    rw [← HLA.out] at r3
                    have R3 := Lib.hid r3
                    have hs3 : w2.heap.size ≤ (w2.drew.alloc (.cells #[] 9)).heap.size := hb3.out.size
                    clear r3
                    refine step_append_any _ rfl (.tmp 86) (.tmp 91) 24 rfl w2.heap.size 9 i0 (.string ⟨#[]⟩) 1 16 Try.underlying24 HI.out HI0.out HI1.out HI2.out rfl (by decide) (.slice (some ⟨w2.heap.size, 0, none⟩) 0 0) (0) ([]) (by rfl) O3.out (.slice A a cp) (a) (strs (rows.take a)) (by rfl) R3.out (strs_oneCell _) (by unfold maxLen; omega) (by omega) hs3 ?_
                    intro v3 w3 ho3 hg3
                    have K3 := Lib.hid (grown_kept (p := fun x => w2.heap.size ≤ x) O3.out hg3 (fun k hk => hk))
                    have B3 := Lib.hid (hb3.out.grown hg3 hs3 (fun j hj => (O3.out.lt j hj).1))
                    simp only [Nat.zero_add, List.nil_append] at ho3
                    have HO3 := Lib.hid ho3
                    obtain ⟨b3, c3, hv3, _, _, _⟩ := own_form ho3
                    subst hv3
                    clear ho3 hg3 O3 R3 hs3 hb3
                    refine hK.out _ _ ?_ (fun hHeld => ?_)
                    · exact KO.out _ _ K3.out hHeld
                    clear hK K
                    (try simp only [Act.put, List.setIfInBounds_toArray, List.set_cons_zero, List.set_cons_succ])
                    refine wpAnyH_ready (rs := [9]) (by kernel_rfl) (by simp) (AllReadyH.cons (o := { dst := some 95, op := Go.Op.buildSlice 24 1 #[(0, Go.Operand.tmp 94)], type := 24, pos := "ref.go:216", after := #[{ on := 8, ground := Go.Ground.data }], guard := none }) rfl (fun K hK => ?_) AllReadyH.nil)
                    · go_simp
                      refine hK.out _ _ ?_ (fun hHeld => ?_)
                      · exact KS.out _ _ (alloc_below _ _) hHeld
                      clear hK K
                      (try simp only [Act.put, List.setIfInBounds_toArray, List.set_cons_zero, List.set_cons_succ])
                      refine wpAnyH_ready (rs := [10]) (by kernel_rfl) (by simp) (AllReadyH.cons (o := { dst := some 96, op := Go.Op.call { callee := Go.Callee.builtin Go.Builtin.append, args := #[Go.Operand.tmp 92, Go.Operand.tmp 95], argTypes := #[24, 24] }, type := 24, pos := "ref.go:216", after := #[{ on := 6, ground := Go.Ground.data }, { on := 9, ground := Go.Ground.data }, { on := 6, ground := Go.Ground.chain }], guard := none }) rfl (fun K hK => ?_) AllReadyH.nil)
                      · have O4 := Lib.hid (HO3.out.alloc (.cells #[.string ⟨text.toArray⟩] 9))
                        have RT := Lib.hid (reads_one (heap_alloc_new w3 (.cells #[.string ⟨text.toArray⟩] 9)))
                        have B4 := Lib.hid (B3.out.alloc B3.out.size (.cells #[.string ⟨text.toArray⟩] 9))
                        have hs4 : w2.heap.size ≤ (w3.alloc (.cells #[.string ⟨text.toArray⟩] 9)).heap.size := B4.out.size
                        refine step_append_any _ rfl (.tmp 92) (.tmp 95) 24 rfl w2.heap.size 9 i0 (.string ⟨#[]⟩) 1 16 Try.underlying24 HI.out HI0.out HI1.out HI2.out rfl (by decide) (.slice b3 a c3) (a) (strs (rows.take a)) (by rfl) O4.out (.slice (some ⟨w3.heap.size, 0, none⟩) 1 1) (1) (strs [text]) (by rfl) RT.out (strs_oneCell _) (by unfold maxLen; omega) (by omega) hs4 ?_
                        intro v4 w4 ho4 hg4
                        have K4 := Lib.hid (grown_kept (p := fun x => w2.heap.size ≤ x) O4.out hg4 (fun k hk => hk))
                        have B4x := Lib.hid (B4.out.grown hg4 hs4 (fun j hj => (O4.out.lt j hj).1))
                        rw [← strs_append] at ho4
                        have HO4 := Lib.hid ho4
                        obtain ⟨b4, c4, hv4, _, _, _⟩ := own_form ho4
                        subst hv4
                        clear ho4 hg4 O4 RT B4 hs4
                        refine hK.out _ _ ?_ (fun hHeld => ?_)
                        · exact KO.out _ _ K4.out hHeld
                        clear hK K
                        (try simp only [Act.put, List.setIfInBounds_toArray, List.set_cons_zero, List.set_cons_succ])
                        refine wpAnyH_ready (rs := [16]) (by kernel_rfl) (by simp) (AllReadyH.cons (o := { dst := some 102, op := Go.Op.call { callee := Go.Callee.builtin Go.Builtin.append, args := #[Go.Operand.tmp 96, Go.Operand.tmp 101], argTypes := #[24, 24] }, type := 24, pos := "ref.go:216", after := #[{ on := 10, ground := Go.Ground.data }, { on := 15, ground := Go.Ground.data }, { on := 10, ground := Go.Ground.chain }], guard := none }) rfl (fun K hK => ?_) AllReadyH.nil)
                        · have R5 := Lib.hid (TextsAt.backR (HT6.out.below B4x.out) a (by omega))
                          rw [htA] at R5
                          have hs5 : w2.heap.size ≤ w4.heap.size := B4x.out.size
                          refine step_append_any _ rfl (.tmp 96) (.tmp 101) 24 rfl w2.heap.size 9 i0 (.string ⟨#[]⟩) 1 16 Try.underlying24 HI.out HI0.out HI1.out HI2.out rfl (by decide) (.slice b4 (a + 1) c4) (a + 1) (strs (rows.take a ++ [text])) (by rfl) HO4.out (.slice tA (n - a) (cp - a)) (n - a) (strs (rows.drop a)) (by rfl) R5.out (strs_oneCell _) (by unfold maxLen; omega) (by omega) hs5 ?_
                          intro v5 w5 ho5 hg5
                          have K5 := Lib.hid (grown_kept (p := fun x => w2.heap.size ≤ x) HO4.out hg5 (fun k hk => hk))
                          have B5x := Lib.hid (B4x.out.grown hg5 hs5 (fun j hj => (HO4.out.lt j hj).1))
                          rw [← strs_append] at ho5
                          have HO5 := Lib.hid ho5
                          obtain ⟨b5, c5, hv5, _, _, _⟩ := own_form ho5
                          subst hv5
                          clear ho5 hg5
                          refine hK.out _ _ ?_ (fun hHeld => ?_)
                          · exact KO.out _ _ K5.out hHeld
                          clear hK K
                          (try simp only [Act.put, List.setIfInBounds_toArray, List.set_cons_zero, List.set_cons_succ])
                          refine wpAnyH_take (i := 17) (oi := { dst := some 9, op := Go.Op.assign (Go.Operand.tmp 102), type := 24, pos := "ref.go:216", after := #[{ on := 16, ground := Go.Ground.data }, { on := 16, ground := Go.Ground.chain }, { on := 0, ground := Go.Ground.phase }, { on := 1, ground := Go.Ground.phase }, { on := 2, ground := Go.Ground.phase }, { on := 3, ground := Go.Ground.phase }, { on := 4, ground := Go.Ground.phase }, { on := 5, ground := Go.Ground.phase }, { on := 6, ground := Go.Ground.phase }, { on := 7, ground := Go.Ground.phase }, { on := 8, ground := Go.Ground.phase }, { on := 9, ground := Go.Ground.phase }, { on := 10, ground := Go.Ground.phase }, { on := 11, ground := Go.Ground.phase }, { on := 12, ground := Go.Ground.phase }, { on := 13, ground := Go.Ground.phase }, { on := 14, ground := Go.Ground.phase }, { on := 15, ground := Go.Ground.phase }, { on := 16, ground := Go.Ground.phase }], guard := none }) (v := ?_) rfl (by kernel_rfl) (by kernel_rfl) (by kernel_rfl) (fun _ _ _ h => h) (Or.inl ⟨by rfl, ?_⟩) hHeld ?_
                          rotate_left
                          · (intro w hSw; go_simp <;> with_reducible rfl)
                          simp only [Act.put, List.setIfInBounds_toArray, List.set_cons_zero, List.set_cons_succ]
                          refine wpAnyH_done (by kernel_rfl) ?_ _
                          go_wp2_with fail
                          go_meet
                          rw [HQ1.out]
                          exact ⟨b5, a + 1 + (n - a), c5, A, n, cp, rfl, Lib.hid ⟨HLN.out, rfl⟩, Lib.hid (texts_own HO5.out).1, Lib.hid (P6.out.below B5x.out), Lib.hid (R6.out.below B5x.out), Lib.hid (below_then B6.out B5x.out)⟩
                  · go_simp
                    refine hK.out _ _ ?_ (fun hHeld => ?_)
                    · exact KS.out _ _ (alloc_below _ _) hHeld
                    clear hK K
                    (try simp only [Act.put, List.setIfInBounds_toArray, List.set_cons_zero, List.set_cons_succ])
                    refine wpAnyH_ready (rs := [6]) (by kernel_rfl) (by simp) (AllReadyH.cons (o := { dst := some 92, op := Go.Op.call { callee := Go.Callee.builtin Go.Builtin.append, args := #[Go.Operand.tmp 86, Go.Operand.tmp 91], argTypes := #[24, 24] }, type := 24, pos := "ref.go:216", after := #[{ on := 0, ground := Go.Ground.data }, { on := 5, ground := Go.Ground.data }], guard := none }) rfl (fun K hK => ?_) AllReadyH.nil)
                    · have hb3 : Hid (Below w2.heap.size w2 ((w2.drew.alloc (.cells #[] 9)).alloc (.cells #[.string ⟨text.toArray⟩] 9))) := Lib.hid (((Below.refl w2.heap.size w2).drew.alloc (Nat.le_refl _) (.cells #[] 9)).alloc (by simp) (.cells #[.string ⟨text.toArray⟩] 9))
                      have O3 : Hid (((w2.drew.alloc (.cells #[] 9)).alloc (.cells #[.string ⟨text.toArray⟩] 9)).ownsRow w2.heap.size 9 1 (.slice (some ⟨w2.heap.size, 0, none⟩) 0 0) 0 []) := Lib.hid (by have h := (World.ownsRow_made (base := w2.heap.size) (e := 9) (size := 1) w2.drew #[] 0 (Nat.le_refl _) (by unfold maxLen; omega) rfl).alloc (.cells #[.string ⟨text.toArray⟩] 9); simpa using h)
                      have hT3 : Hid (((w2.drew.alloc (.cells #[] 9)).alloc (.cells #[.string ⟨text.toArray⟩] 9)).heap[w2.heap.size + 1]? = some (.cells #[.string ⟨text.toArray⟩] 9)) := Lib.hid (by have h := heap_alloc2_new w2.drew (.cells #[] 9) (.cells #[.string ⟨text.toArray⟩] 9); simpa using h)
                      have r3 := (HTA.out.below hb3.out).reads
                      rw [← HLA.out] at r3
                      have R3 := Lib.hid r3
                      have hs3 : w2.heap.size ≤ ((w2.drew.alloc (.cells #[] 9)).alloc (.cells #[.string ⟨text.toArray⟩] 9)).heap.size := hb3.out.size
                      clear r3
                      refine step_append_any _ rfl (.tmp 86) (.tmp 91) 24 rfl w2.heap.size 9 i0 (.string ⟨#[]⟩) 1 16 Try.underlying24 HI.out HI0.out HI1.out HI2.out rfl (by decide) (.slice (some ⟨w2.heap.size, 0, none⟩) 0 0) (0) ([]) (by rfl) O3.out (.slice A a cp) (a) (strs (rows.take a)) (by rfl) R3.out (strs_oneCell _) (by unfold maxLen; omega) (by omega) hs3 ?_
                      intro v3 w3 ho3 hg3
                      have K3 := Lib.hid (grown_kept (p := fun x => w2.heap.size ≤ x) O3.out hg3 (fun k hk => hk))
                      have B3 := Lib.hid (hb3.out.grown hg3 hs3 (fun j hj => (O3.out.lt j hj).1))
                      have T3 : Hid (w3.heap[w2.heap.size + 1]? = some (.cells #[.string ⟨text.toArray⟩] 9)) := Lib.hid ((hg3.block _ (blk_lt hT3.out) (fun e => by simp [Value.ownBlock] at e)).trans hT3.out)
                      clear hT3
                      simp only [Nat.zero_add, List.nil_append] at ho3
                      have HO3 := Lib.hid ho3
                      obtain ⟨b3, c3, hv3, _, _, _⟩ := own_form ho3
                      subst hv3
                      clear ho3 hg3 O3 R3 hs3 hb3
                      refine hK.out _ _ ?_ (fun hHeld => ?_)
                      · exact KO.out _ _ K3.out hHeld
                      clear hK K
                      (try simp only [Act.put, List.setIfInBounds_toArray, List.set_cons_zero, List.set_cons_succ])
                      refine wpAnyH_ready (rs := [10]) (by kernel_rfl) (by simp) (AllReadyH.cons (o := { dst := some 96, op := Go.Op.call { callee := Go.Callee.builtin Go.Builtin.append, args := #[Go.Operand.tmp 92, Go.Operand.tmp 95], argTypes := #[24, 24] }, type := 24, pos := "ref.go:216", after := #[{ on := 6, ground := Go.Ground.data }, { on := 9, ground := Go.Ground.data }, { on := 6, ground := Go.Ground.chain }], guard := none }) rfl (fun K hK => ?_) AllReadyH.nil)
                      · have O4 := HO3
                        have RT := Lib.hid (reads_one T3.out)
                        have B4 := B3
                        have hs4 : w2.heap.size ≤ w3.heap.size := B4.out.size
                        refine step_append_any _ rfl (.tmp 92) (.tmp 95) 24 rfl w2.heap.size 9 i0 (.string ⟨#[]⟩) 1 16 Try.underlying24 HI.out HI0.out HI1.out HI2.out rfl (by decide) (.slice b3 a c3) (a) (strs (rows.take a)) (by rfl) O4.out (.slice (some ⟨w2.heap.size + 1, 0, none⟩) 1 1) (1) (strs [text]) (by rfl) RT.out (strs_oneCell _) (by unfold maxLen; omega) (by omega) hs4 ?_
                        intro v4 w4 ho4 hg4
                        have K4 := Lib.hid (grown_kept (p := fun x => w2.heap.size ≤ x) O4.out hg4 (fun k hk => hk))
                        have B4x := Lib.hid (B4.out.grown hg4 hs4 (fun j hj => (O4.out.lt j hj).1))
                        rw [← strs_append] at ho4
                        have HO4 := Lib.hid ho4
                        obtain ⟨b4, c4, hv4, _, _, _⟩ := own_form ho4
                        subst hv4
                        clear ho4 hg4 O4 RT B4 hs4
                        refine hK.out _ _ ?_ (fun hHeld => ?_)
                        · exact KO.out _ _ K4.out hHeld
                        clear hK K
                        (try simp only [Act.put, List.setIfInBounds_toArray, List.set_cons_zero, List.set_cons_succ])
                        refine wpAnyH_ready (rs := [16]) (by kernel_rfl) (by simp) (AllReadyH.cons (o := { dst := some 102, op := Go.Op.call { callee := Go.Callee.builtin Go.Builtin.append, args := #[Go.Operand.tmp 96, Go.Operand.tmp 101], argTypes := #[24, 24] }, type := 24, pos := "ref.go:216", after := #[{ on := 10, ground := Go.Ground.data }, { on := 15, ground := Go.Ground.data }, { on := 10, ground := Go.Ground.chain }], guard := none }) rfl (fun K hK => ?_) AllReadyH.nil)
                        · have R5 := Lib.hid (TextsAt.backR (HT6.out.below B4x.out) a (by omega))
                          rw [htA] at R5
                          have hs5 : w2.heap.size ≤ w4.heap.size := B4x.out.size
                          refine step_append_any _ rfl (.tmp 96) (.tmp 101) 24 rfl w2.heap.size 9 i0 (.string ⟨#[]⟩) 1 16 Try.underlying24 HI.out HI0.out HI1.out HI2.out rfl (by decide) (.slice b4 (a + 1) c4) (a + 1) (strs (rows.take a ++ [text])) (by rfl) HO4.out (.slice tA (n - a) (cp - a)) (n - a) (strs (rows.drop a)) (by rfl) R5.out (strs_oneCell _) (by unfold maxLen; omega) (by omega) hs5 ?_
                          intro v5 w5 ho5 hg5
                          have K5 := Lib.hid (grown_kept (p := fun x => w2.heap.size ≤ x) HO4.out hg5 (fun k hk => hk))
                          have B5x := Lib.hid (B4x.out.grown hg5 hs5 (fun j hj => (HO4.out.lt j hj).1))
                          rw [← strs_append] at ho5
                          have HO5 := Lib.hid ho5
                          obtain ⟨b5, c5, hv5, _, _, _⟩ := own_form ho5
                          subst hv5
                          clear ho5 hg5
                          refine hK.out _ _ ?_ (fun hHeld => ?_)
                          · exact KO.out _ _ K5.out hHeld
                          clear hK K
                          (try simp only [Act.put, List.setIfInBounds_toArray, List.set_cons_zero, List.set_cons_succ])
                          refine wpAnyH_take (i := 17) (oi := { dst := some 9, op := Go.Op.assign (Go.Operand.tmp 102), type := 24, pos := "ref.go:216", after := #[{ on := 16, ground := Go.Ground.data }, { on := 16, ground := Go.Ground.chain }, { on := 0, ground := Go.Ground.phase }, { on := 1, ground := Go.Ground.phase }, { on := 2, ground := Go.Ground.phase }, { on := 3, ground := Go.Ground.phase }, { on := 4, ground := Go.Ground.phase }, { on := 5, ground := Go.Ground.phase }, { on := 6, ground := Go.Ground.phase }, { on := 7, ground := Go.Ground.phase }, { on := 8, ground := Go.Ground.phase }, { on := 9, ground := Go.Ground.phase }, { on := 10, ground := Go.Ground.phase }, { on := 11, ground := Go.Ground.phase }, { on := 12, ground := Go.Ground.phase }, { on := 13, ground := Go.Ground.phase }, { on := 14, ground := Go.Ground.phase }, { on := 15, ground := Go.Ground.phase }, { on := 16, ground := Go.Ground.phase }], guard := none }) (v := ?_) rfl (by kernel_rfl) (by kernel_rfl) (by kernel_rfl) (fun _ _ _ h => h) (Or.inl ⟨by rfl, ?_⟩) hHeld ?_
                          rotate_left
                          · (intro w hSw; go_simp <;> with_reducible rfl)
                          simp only [Act.put, List.setIfInBounds_toArray, List.set_cons_zero, List.set_cons_succ]
                          refine wpAnyH_done (by kernel_rfl) ?_ _
                          go_wp2_with fail
                          go_meet
                          rw [HQ1.out]
                          exact ⟨b5, a + 1 + (n - a), c5, A, n, cp, rfl, Lib.hid ⟨HLN.out, rfl⟩, Lib.hid (texts_own HO5.out).1, Lib.hid (P6.out.below B5x.out), Lib.hid (R6.out.below B5x.out), Lib.hid (below_then B6.out B5x.out)⟩
                · go_simp
                  refine hK.out _ _ ?_ (fun hHeld => ?_)
                  · exact KS.out _ _ (alloc_below _ _) hHeld
                  clear hK K
                  (try simp only [Act.put, List.setIfInBounds_toArray, List.set_cons_zero, List.set_cons_succ])
                  refine wpAnyH_ready (rs := [0]) (by kernel_rfl) (by simp) (AllReadyH.cons (o := { dst := some 86, op := Go.Op.buildSlice 24 0 #[], type := 24, pos := "ref.go:216", after := #[], guard := none }) rfl (fun K hK => ?_) AllReadyH.nil)
                  · go_simp
                    refine hK.out _ _ ?_ (fun hHeld => ?_)
                    · exact KS.out _ _ (alloc_below _ _) hHeld
                    clear hK K
                    (try simp only [Act.put, List.setIfInBounds_toArray, List.set_cons_zero, List.set_cons_succ])
                    refine wpAnyH_ready (rs := [6]) (by kernel_rfl) (by simp) (AllReadyH.cons (o := { dst := some 92, op := Go.Op.call { callee := Go.Callee.builtin Go.Builtin.append, args := #[Go.Operand.tmp 86, Go.Operand.tmp 91], argTypes := #[24, 24] }, type := 24, pos := "ref.go:216", after := #[{ on := 0, ground := Go.Ground.data }, { on := 5, ground := Go.Ground.data }], guard := none }) rfl (fun K hK => ?_) AllReadyH.nil)
                    · have hb3 : Hid (Below w2.heap.size w2 ((w2.drew.alloc (.cells #[.string ⟨text.toArray⟩] 9)).alloc (.cells #[] 9))) := Lib.hid (((Below.refl w2.heap.size w2).drew.alloc (Nat.le_refl _) (.cells #[.string ⟨text.toArray⟩] 9)).alloc (by simp) (.cells #[] 9))
                      have O3 : Hid (((w2.drew.alloc (.cells #[.string ⟨text.toArray⟩] 9)).alloc (.cells #[] 9)).ownsRow w2.heap.size 9 1 (.slice (some ⟨w2.heap.size + 1, 0, none⟩) 0 0) 0 []) := Lib.hid (by have h := World.ownsRow_made (base := w2.heap.size) (e := 9) (size := 1) (w2.drew.alloc (.cells #[.string ⟨text.toArray⟩] 9)) #[] 0 (by simp) (by unfold maxLen; omega) rfl; simpa using h)
                      have hT3 : Hid (((w2.drew.alloc (.cells #[.string ⟨text.toArray⟩] 9)).alloc (.cells #[] 9)).heap[w2.heap.size]? = some (.cells #[.string ⟨text.toArray⟩] 9)) := Lib.hid (by have h := heap_alloc2_old w2.drew (.cells #[.string ⟨text.toArray⟩] 9) (.cells #[] 9); simpa using h)
                      have r3 := (HTA.out.below hb3.out).reads
                      rw [← HLA.out] at r3
                      have R3 := Lib.hid r3
                      have hs3 : w2.heap.size ≤ ((w2.drew.alloc (.cells #[.string ⟨text.toArray⟩] 9)).alloc (.cells #[] 9)).heap.size := hb3.out.size
                      clear r3
                      refine step_append_any _ rfl (.tmp 86) (.tmp 91) 24 rfl w2.heap.size 9 i0 (.string ⟨#[]⟩) 1 16 Try.underlying24 HI.out HI0.out HI1.out HI2.out rfl (by decide) (.slice (some ⟨w2.heap.size + 1, 0, none⟩) 0 0) (0) ([]) (by rfl) O3.out (.slice A a cp) (a) (strs (rows.take a)) (by rfl) R3.out (strs_oneCell _) (by unfold maxLen; omega) (by omega) hs3 ?_
                      intro v3 w3 ho3 hg3
                      have K3 := Lib.hid (grown_kept (p := fun x => w2.heap.size ≤ x) O3.out hg3 (fun k hk => hk))
                      have B3 := Lib.hid (hb3.out.grown hg3 hs3 (fun j hj => (O3.out.lt j hj).1))
                      have T3 : Hid (w3.heap[w2.heap.size]? = some (.cells #[.string ⟨text.toArray⟩] 9)) := Lib.hid ((hg3.block _ (blk_lt hT3.out) (fun e => by simp [Value.ownBlock] at e)).trans hT3.out)
                      clear hT3
                      simp only [Nat.zero_add, List.nil_append] at ho3
                      have HO3 := Lib.hid ho3
                      obtain ⟨b3, c3, hv3, _, _, _⟩ := own_form ho3
                      subst hv3
                      clear ho3 hg3 O3 R3 hs3 hb3
                      refine hK.out _ _ ?_ (fun hHeld => ?_)
                      · exact KO.out _ _ K3.out hHeld
                      clear hK K
                      (try simp only [Act.put, List.setIfInBounds_toArray, List.set_cons_zero, List.set_cons_succ])
                      refine wpAnyH_ready (rs := [10]) (by kernel_rfl) (by simp) (AllReadyH.cons (o := { dst := some 96, op := Go.Op.call { callee := Go.Callee.builtin Go.Builtin.append, args := #[Go.Operand.tmp 92, Go.Operand.tmp 95], argTypes := #[24, 24] }, type := 24, pos := "ref.go:216", after := #[{ on := 6, ground := Go.Ground.data }, { on := 9, ground := Go.Ground.data }, { on := 6, ground := Go.Ground.chain }], guard := none }) rfl (fun K hK => ?_) AllReadyH.nil)
                      · have O4 := HO3
                        have RT := Lib.hid (reads_one T3.out)
                        have B4 := B3
                        have hs4 : w2.heap.size ≤ w3.heap.size := B4.out.size
                        refine step_append_any _ rfl (.tmp 92) (.tmp 95) 24 rfl w2.heap.size 9 i0 (.string ⟨#[]⟩) 1 16 Try.underlying24 HI.out HI0.out HI1.out HI2.out rfl (by decide) (.slice b3 a c3) (a) (strs (rows.take a)) (by rfl) O4.out (.slice (some ⟨w2.heap.size, 0, none⟩) 1 1) (1) (strs [text]) (by rfl) RT.out (strs_oneCell _) (by unfold maxLen; omega) (by omega) hs4 ?_
                        intro v4 w4 ho4 hg4
                        have K4 := Lib.hid (grown_kept (p := fun x => w2.heap.size ≤ x) O4.out hg4 (fun k hk => hk))
                        have B4x := Lib.hid (B4.out.grown hg4 hs4 (fun j hj => (O4.out.lt j hj).1))
                        rw [← strs_append] at ho4
                        have HO4 := Lib.hid ho4
                        obtain ⟨b4, c4, hv4, _, _, _⟩ := own_form ho4
                        subst hv4
                        clear ho4 hg4 O4 RT B4 hs4
                        refine hK.out _ _ ?_ (fun hHeld => ?_)
                        · exact KO.out _ _ K4.out hHeld
                        clear hK K
                        (try simp only [Act.put, List.setIfInBounds_toArray, List.set_cons_zero, List.set_cons_succ])
                        refine wpAnyH_ready (rs := [16]) (by kernel_rfl) (by simp) (AllReadyH.cons (o := { dst := some 102, op := Go.Op.call { callee := Go.Callee.builtin Go.Builtin.append, args := #[Go.Operand.tmp 96, Go.Operand.tmp 101], argTypes := #[24, 24] }, type := 24, pos := "ref.go:216", after := #[{ on := 10, ground := Go.Ground.data }, { on := 15, ground := Go.Ground.data }, { on := 10, ground := Go.Ground.chain }], guard := none }) rfl (fun K hK => ?_) AllReadyH.nil)
                        · have R5 := Lib.hid (TextsAt.backR (HT6.out.below B4x.out) a (by omega))
                          rw [htA] at R5
                          have hs5 : w2.heap.size ≤ w4.heap.size := B4x.out.size
                          refine step_append_any _ rfl (.tmp 96) (.tmp 101) 24 rfl w2.heap.size 9 i0 (.string ⟨#[]⟩) 1 16 Try.underlying24 HI.out HI0.out HI1.out HI2.out rfl (by decide) (.slice b4 (a + 1) c4) (a + 1) (strs (rows.take a ++ [text])) (by rfl) HO4.out (.slice tA (n - a) (cp - a)) (n - a) (strs (rows.drop a)) (by rfl) R5.out (strs_oneCell _) (by unfold maxLen; omega) (by omega) hs5 ?_
                          intro v5 w5 ho5 hg5
                          have K5 := Lib.hid (grown_kept (p := fun x => w2.heap.size ≤ x) HO4.out hg5 (fun k hk => hk))
                          have B5x := Lib.hid (B4x.out.grown hg5 hs5 (fun j hj => (HO4.out.lt j hj).1))
                          rw [← strs_append] at ho5
                          have HO5 := Lib.hid ho5
                          obtain ⟨b5, c5, hv5, _, _, _⟩ := own_form ho5
                          subst hv5
                          clear ho5 hg5
                          refine hK.out _ _ ?_ (fun hHeld => ?_)
                          · exact KO.out _ _ K5.out hHeld
                          clear hK K
                          (try simp only [Act.put, List.setIfInBounds_toArray, List.set_cons_zero, List.set_cons_succ])
                          refine wpAnyH_take (i := 17) (oi := { dst := some 9, op := Go.Op.assign (Go.Operand.tmp 102), type := 24, pos := "ref.go:216", after := #[{ on := 16, ground := Go.Ground.data }, { on := 16, ground := Go.Ground.chain }, { on := 0, ground := Go.Ground.phase }, { on := 1, ground := Go.Ground.phase }, { on := 2, ground := Go.Ground.phase }, { on := 3, ground := Go.Ground.phase }, { on := 4, ground := Go.Ground.phase }, { on := 5, ground := Go.Ground.phase }, { on := 6, ground := Go.Ground.phase }, { on := 7, ground := Go.Ground.phase }, { on := 8, ground := Go.Ground.phase }, { on := 9, ground := Go.Ground.phase }, { on := 10, ground := Go.Ground.phase }, { on := 11, ground := Go.Ground.phase }, { on := 12, ground := Go.Ground.phase }, { on := 13, ground := Go.Ground.phase }, { on := 14, ground := Go.Ground.phase }, { on := 15, ground := Go.Ground.phase }, { on := 16, ground := Go.Ground.phase }], guard := none }) (v := ?_) rfl (by kernel_rfl) (by kernel_rfl) (by kernel_rfl) (fun _ _ _ h => h) (Or.inl ⟨by rfl, ?_⟩) hHeld ?_
                          rotate_left
                          · (intro w hSw; go_simp <;> with_reducible rfl)
                          simp only [Act.put, List.setIfInBounds_toArray, List.set_cons_zero, List.set_cons_succ]
                          refine wpAnyH_done (by kernel_rfl) ?_ _
                          go_wp2_with fail
                          go_meet
                          rw [HQ1.out]
                          exact ⟨b5, a + 1 + (n - a), c5, A, n, cp, rfl, Lib.hid ⟨HLN.out, rfl⟩, Lib.hid (texts_own HO5.out).1, Lib.hid (P6.out.below B5x.out), Lib.hid (R6.out.below B5x.out), Lib.hid (below_then B6.out B5x.out)⟩
            · as_aux_lemma =>
                have hlt := (HNEAR.out rfl).2 (.inl rfl)
                have han : a < n := by simpa using hlt
                have hani : (a : Int) < (n : Int) := by omega
                have ha0 : (0 : Int) ≤ (a : Int) := by omega
                have hal : a < rows.length := by rw [← HN.out]; exact han
                have HQ1 : Hid (Q = (⟨kind, level, id, plsn, next, putRows rows a text true⟩, 0)) := by
                  show _ = _
                  rw [HQ.out]
                  show (if ((a : Nat) : Int).toNat < rows.length then ((Pg.mk kind level id plsn next (putRows rows ((a : Nat) : Int).toNat text true)), (0 : Int)) else _) = _
                  exact (if_pos (by simpa using hal)).trans rfl
                obtain ⟨g2, hbg, cur, hg2⟩ : ∃ g2, b2 = some ⟨g2, 0, none⟩ ∧ ∃ cur, w2.heap[g2]? = some (.cells cur 9 (0, 0)) := by
                  rcases HO2.out.2 with ⟨_, h0⟩ | ⟨g, cap, cur, he, _, hg, _⟩
                  · omega
                  · injection he with he
                    exact ⟨g, he, cur, hg⟩
                subst hbg
                have hgb := (HO2.out.lt g2 rfl).1
                obtain ⟨ra, x10⟩ : ∃ ra : List UInt8, w2.cell? ⟨g2, a, none⟩ = some (.string ⟨ra.toArray⟩) := ⟨rows[a], own_cell HO2.out a _ (strs_get rows a hal)⟩
                have x11 : w2.frozen? ⟨g2, a, none⟩ = false := blk_frozen hg2 a
                have HKA : Hid (n = (putRows rows a text true).length) := by
                  show _ = _
                  rw [HN.out]
                  have : (putRows rows a text true).length = (rows.take a ++ text :: rows.drop (a + 1)).length := rfl
                  rw [this]
                  simp; omega
                have HAL := Lib.hid hal
                clear HQ HWT HER HRR HMAY HKM HNEAR HU6 HT6 hlt hg2 hal
                go_wp2_with fail
                go_meet
                rw [HQ1.out]
                have hk9 := one_kept w2 g2 a (.string ⟨text.toArray⟩)
                exact ⟨some ⟨g2, 0, none⟩, n, c2, A, n, cp, rfl, Lib.hid ⟨HKA.out, rfl⟩, Lib.hid (texts_own (own_set_cell (x := text) HO2.out HAL.out)).1, Lib.hid (P6.out.kept hk9 (by omega)), Lib.hid (R6.out.kept hk9 (by omega)), Lib.hid (OthersKept.below B6.out hk9 (fun k' hk' e => absurd (show k' = g2 from e) (by omega)))⟩
            · as_aux_lemma =>
                have hlt := (HNEAR.out rfl).2 (.inr (.inl rfl))
                have han : a < n := by simpa using hlt
                have hacp : a ≤ cp := by have := HT6.out.cap.1; omega
                have hani : (a : Int) < (n : Int) := by omega
                have hanle : (a : Int) ≤ (n : Int) := by omega
                have ha0 : (0 : Int) ≤ (a : Int) := by omega
                have hal : a < rows.length := by rw [← HN.out]; exact han
                obtain ⟨a1, ha1⟩ : ∃ x, x = a + 1 := ⟨_, rfl⟩
                have hani1 : (a1 : Int) ≤ (n : Int) := by omega
                have ha10 : (0 : Int) ≤ (a1 : Int) := by omega
                have HQ1 : Hid (Q = (⟨kind, level, id, plsn, next, rows.take a ++ rows.drop a1⟩, 0)) := by
                  show _ = _
                  rw [HQ.out, ha1]
                  show (if ((a : Nat) : Int).toNat < rows.length then ((Pg.mk kind level id plsn next (rows.take ((a : Nat) : Int).toNat ++ rows.drop (((a : Nat) : Int).toNat + 1))), (0 : Int)) else _) = _
                  exact (if_pos (by simpa using hal)).trans rfl
                have HLA : Hid (a = (rows.take a).length) := by
                  show _ = _
                  rw [List.length_take]; omega
                have HTA := Lib.hid (HT6.out.take a cp (by omega) (by omega) (Nat.le_refl _))
                obtain ⟨tA, htA⟩ : ∃ x, (if cp = a1 then A else Option.map (fun x => x.add a1) A) = x := ⟨_, rfl⟩
                have hw2 : w.heap.size + 1 < w2.heap.size := by omega
                clear HQ HWT HER HRR HMAY HKM HNEAR HU6 hlt hal
                have KS := Lib.hid fun W W' (hb : Below W.heap.size W W') (h : W.cell? ⟨w.heap.size, 5, none⟩ = some (.slice A n cp) ∧ W.cell? ⟨w.heap.size + 1, 2, none⟩ = some (.int .i64 (a : Int))) => (⟨keep_cell hb h.1, keep_cell hb h.2⟩ : W'.cell? ⟨w.heap.size, 5, none⟩ = some (.slice A n cp) ∧ W'.cell? ⟨w.heap.size + 1, 2, none⟩ = some (.int .i64 (a : Int)))
                have KO := Lib.hid fun W W' (hb : OthersKept W W' (fun x => w2.heap.size ≤ x)) (h : W.cell? ⟨w.heap.size, 5, none⟩ = some (.slice A n cp) ∧ W.cell? ⟨w.heap.size + 1, 2, none⟩ = some (.int .i64 (a : Int))) => (⟨hb.cell h.1 (fun e => absurd (show w2.heap.size ≤ w.heap.size from e) (by omega)), hb.cell h.2 (fun e => absurd (show w2.heap.size ≤ w.heap.size + 1 from e) (by omega))⟩ : W'.cell? ⟨w.heap.size, 5, none⟩ = some (.slice A n cp) ∧ W'.cell? ⟨w.heap.size + 1, 2, none⟩ = some (.int .i64 (a : Int)))
                have hna1 : a1 ≤ n := by omega
                have wa1 : IntKind.i64.wrap ((a : Int) + 1) = (a1 : Int) := by rw [show ((a : Int) + 1) = (a1 : Int) by omega]; exact IntWalk.i64_in _ ⟨by omega, by omega⟩
                clear ha1
                go_upto_region 16 with fail
                refine wp_region_held_drew (S := fun W => W.cell? ⟨w.heap.size, 5, none⟩ = some (.slice A n cp) ∧ W.cell? ⟨w.heap.size + 1, 2, none⟩ = some (.int .i64 (a : Int))) (by kernel_rfl) (KS.out _ _ ((Below.refl _ _).drew) ⟨p5, x2⟩) (fun hHeld => ?_)
                refine wpAnyH_take (i := 1) (oi := { dst := some 114, op := Go.Op.fieldAddr 26 (Go.Operand.tmp 3) 5, type := 0, pos := "ref.go:220", after := #[], guard := none }) (v := ?_) rfl (by kernel_rfl) (by kernel_rfl) (by kernel_rfl) (fun _ _ _ h => h) (Or.inl ⟨by rfl, ?_⟩) hHeld ?_
                rotate_left
                · (intro w hSw; go_simp <;> with_reducible rfl)
                simp only [Act.put, List.setIfInBounds_toArray, List.set_cons_zero, List.set_cons_succ]
                refine wpAnyH_take (i := 2) (oi := { dst := some 115, op := Go.Op.load 24 (Go.Operand.tmp 114), type := 24, pos := "ref.go:220", after := #[{ on := 1, ground := Go.Ground.data }], guard := none }) (v := ?_) rfl (by kernel_rfl) (by kernel_rfl) (by kernel_rfl) (fun _ _ _ h => h) (Or.inl ⟨by rfl, ?_⟩) hHeld ?_
                rotate_left
                · (intro w hSw; go_simp <;> with_reducible rfl)
                simp only [Act.put, List.setIfInBounds_toArray, List.set_cons_zero, List.set_cons_succ]
                refine wpAnyH_take (i := 3) (oi := { dst := some 116, op := Go.Op.fieldAddr 28 (Go.Operand.tmp 4) 2, type := 0, pos := "ref.go:220", after := #[], guard := none }) (v := ?_) rfl (by kernel_rfl) (by kernel_rfl) (by kernel_rfl) (fun _ _ _ h => h) (Or.inl ⟨by rfl, ?_⟩) hHeld ?_
                rotate_left
                · (intro w hSw; go_simp <;> with_reducible rfl)
                simp only [Act.put, List.setIfInBounds_toArray, List.set_cons_zero, List.set_cons_succ]
                refine wpAnyH_take (i := 4) (oi := { dst := some 117, op := Go.Op.load 3 (Go.Operand.tmp 116), type := 3, pos := "ref.go:220", after := #[{ on := 3, ground := Go.Ground.data }], guard := none }) (v := ?_) rfl (by kernel_rfl) (by kernel_rfl) (by kernel_rfl) (fun _ _ _ h => h) (Or.inl ⟨by rfl, ?_⟩) hHeld ?_
                rotate_left
                · (intro w hSw; go_simp <;> with_reducible rfl)
                simp only [Act.put, List.setIfInBounds_toArray, List.set_cons_zero, List.set_cons_succ]
                refine wpAnyH_take (i := 5) (oi := { dst := some 118, op := Go.Op.slice 24 (Go.Operand.tmp 115) none (some (Go.Operand.tmp 117)) none, type := 24, pos := "ref.go:220", after := #[{ on := 2, ground := Go.Ground.data }, { on := 4, ground := Go.Ground.data }], guard := none }) (v := ?_) rfl (by kernel_rfl) (by kernel_rfl) (by kernel_rfl) (fun _ _ _ h => h) (Or.inl ⟨by rfl, ?_⟩) hHeld ?_
                rotate_left
                · (intro w hSw; go_simp <;> with_reducible rfl)
                simp only [Act.put, List.setIfInBounds_toArray, List.set_cons_zero, List.set_cons_succ]
                refine wpAnyH_take (i := 7) (oi := { dst := some 120, op := Go.Op.fieldAddr 26 (Go.Operand.tmp 3) 5, type := 0, pos := "ref.go:220", after := #[], guard := none }) (v := ?_) rfl (by kernel_rfl) (by kernel_rfl) (by kernel_rfl) (fun _ _ _ h => h) (Or.inl ⟨by rfl, ?_⟩) hHeld ?_
                rotate_left
                · (intro w hSw; go_simp <;> with_reducible rfl)
                simp only [Act.put, List.setIfInBounds_toArray, List.set_cons_zero, List.set_cons_succ]
                refine wpAnyH_take (i := 8) (oi := { dst := some 121, op := Go.Op.load 24 (Go.Operand.tmp 120), type := 24, pos := "ref.go:220", after := #[{ on := 7, ground := Go.Ground.data }], guard := none }) (v := ?_) rfl (by kernel_rfl) (by kernel_rfl) (by kernel_rfl) (fun _ _ _ h => h) (Or.inl ⟨by rfl, ?_⟩) hHeld ?_
                rotate_left
                · (intro w hSw; go_simp <;> with_reducible rfl)
                simp only [Act.put, List.setIfInBounds_toArray, List.set_cons_zero, List.set_cons_succ]
                refine wpAnyH_take (i := 9) (oi := { dst := some 122, op := Go.Op.fieldAddr 28 (Go.Operand.tmp 4) 2, type := 0, pos := "ref.go:220", after := #[], guard := none }) (v := ?_) rfl (by kernel_rfl) (by kernel_rfl) (by kernel_rfl) (fun _ _ _ h => h) (Or.inl ⟨by rfl, ?_⟩) hHeld ?_
                rotate_left
                · (intro w hSw; go_simp <;> with_reducible rfl)
                simp only [Act.put, List.setIfInBounds_toArray, List.set_cons_zero, List.set_cons_succ]
                refine wpAnyH_take (i := 10) (oi := { dst := some 123, op := Go.Op.load 3 (Go.Operand.tmp 122), type := 3, pos := "ref.go:220", after := #[{ on := 9, ground := Go.Ground.data }], guard := none }) (v := ?_) rfl (by kernel_rfl) (by kernel_rfl) (by kernel_rfl) (fun _ _ _ h => h) (Or.inl ⟨by rfl, ?_⟩) hHeld ?_
                rotate_left
                · (intro w hSw; go_simp <;> with_reducible rfl)
                simp only [Act.put, List.setIfInBounds_toArray, List.set_cons_zero, List.set_cons_succ]
                refine wpAnyH_take (i := 11) (oi := { dst := some 124, op := Go.Op.binOp Go.BinOp.add 3 (Go.Operand.tmp 123) (Go.Operand.const (Go.Value.int Go.IntKind.i64 1)) 3, type := 3, pos := "ref.go:220", after := #[{ on := 10, ground := Go.Ground.data }], guard := none }) (v := ?_) rfl (by kernel_rfl) (by kernel_rfl) (by kernel_rfl) (fun _ _ _ h => h) (Or.inl ⟨by rfl, ?_⟩) hHeld ?_
                rotate_left
                · (intro w hSw; go_simp <;> with_reducible rfl)
                simp only [Act.put, List.setIfInBounds_toArray, List.set_cons_zero, List.set_cons_succ]
                refine wpAnyH_take (i := 12) (oi := { dst := some 125, op := Go.Op.slice 24 (Go.Operand.tmp 121) (some (Go.Operand.tmp 124)) none none, type := 24, pos := "ref.go:220", after := #[{ on := 8, ground := Go.Ground.data }, { on := 11, ground := Go.Ground.data }], guard := none }) (v := ?_) rfl (by kernel_rfl) (by kernel_rfl) (by kernel_rfl) (fun _ _ _ h => h) (Or.inl ⟨by rfl, ?_⟩) hHeld ?_
                rotate_left
                · (intro w hSw; go_simp <;> with_reducible rfl)
                simp only [Act.put, List.setIfInBounds_toArray, List.set_cons_zero, List.set_cons_succ]
                refine wpAnyH_ready (rs := [0]) (by kernel_rfl) (by simp) (AllReadyH.cons (o := { dst := some 113, op := Go.Op.buildSlice 24 0 #[], type := 24, pos := "ref.go:220", after := #[], guard := none }) rfl (fun K hK => ?_) AllReadyH.nil)
                · go_simp
                  refine hK.out _ _ ?_ (fun hHeld => ?_)
                  · exact KS.out _ _ (alloc_below _ _) hHeld
                  clear hK K
                  (try simp only [Act.put, List.setIfInBounds_toArray, List.set_cons_zero, List.set_cons_succ])
                  refine wpAnyH_ready (rs := [6]) (by kernel_rfl) (by simp) (AllReadyH.cons (o := { dst := some 119, op := Go.Op.call { callee := Go.Callee.builtin Go.Builtin.append, args := #[Go.Operand.tmp 113, Go.Operand.tmp 118], argTypes := #[24, 24] }, type := 24, pos := "ref.go:220", after := #[{ on := 0, ground := Go.Ground.data }, { on := 5, ground := Go.Ground.data }], guard := none }) rfl (fun K hK => ?_) AllReadyH.nil)
                  · have O3 := Lib.hid (World.ownsRow_made (base := w2.heap.size) (e := 9) (size := 1) w2.drew #[] 0 (Nat.le_refl _) (by unfold maxLen; omega) rfl)
                    have hb3 := Lib.hid ((Below.refl w2.heap.size w2).drew.alloc (Nat.le_refl _) (.cells #[] 9))
                    have r3 := (HTA.out.below hb3.out).reads
                    rw [← HLA.out] at r3
                    have R3 := Lib.hid r3
                    have hs3 : w2.heap.size ≤ (w2.drew.alloc (.cells #[] 9)).heap.size := hb3.out.size
                    clear r3
                    refine step_append_any _ rfl (.tmp 113) (.tmp 118) 24 rfl w2.heap.size 9 i0 (.string ⟨#[]⟩) 1 16 Try.underlying24 HI.out HI0.out HI1.out HI2.out rfl (by decide) (.slice (some ⟨w2.heap.size, 0, none⟩) 0 0) (0) ([]) (by rfl) O3.out (.slice A a cp) (a) (strs (rows.take a)) (by rfl) R3.out (strs_oneCell _) (by unfold maxLen; omega) (by omega) hs3 ?_
                    intro v3 w3 ho3 hg3
                    have K3 := Lib.hid (grown_kept (p := fun x => w2.heap.size ≤ x) O3.out hg3 (fun k hk => hk))
                    have B3 := Lib.hid (hb3.out.grown hg3 hs3 (fun j hj => (O3.out.lt j hj).1))
                    simp only [Nat.zero_add, List.nil_append] at ho3
                    have HO3 := Lib.hid ho3
                    obtain ⟨b3, c3, hv3, _, _, _⟩ := own_form ho3
                    subst hv3
                    clear ho3 hg3 O3 R3 hs3 hb3
                    refine hK.out _ _ ?_ (fun hHeld => ?_)
                    · exact KO.out _ _ K3.out hHeld
                    clear hK K
                    (try simp only [Act.put, List.setIfInBounds_toArray, List.set_cons_zero, List.set_cons_succ])
                    refine wpAnyH_ready (rs := [13]) (by kernel_rfl) (by simp) (AllReadyH.cons (o := { dst := some 126, op := Go.Op.call { callee := Go.Callee.builtin Go.Builtin.append, args := #[Go.Operand.tmp 119, Go.Operand.tmp 125], argTypes := #[24, 24] }, type := 24, pos := "ref.go:220", after := #[{ on := 6, ground := Go.Ground.data }, { on := 12, ground := Go.Ground.data }, { on := 6, ground := Go.Ground.chain }], guard := none }) rfl (fun K hK => ?_) AllReadyH.nil)
                    · have R4 := Lib.hid (TextsAt.backR (HT6.out.below B3.out) a1 (by omega))
                      rw [htA] at R4
                      have hs4 : w2.heap.size ≤ w3.heap.size := B3.out.size
                      refine step_append_any _ rfl (.tmp 119) (.tmp 125) 24 rfl w2.heap.size 9 i0 (.string ⟨#[]⟩) 1 16 Try.underlying24 HI.out HI0.out HI1.out HI2.out rfl (by decide) (.slice b3 a c3) (a) (strs (rows.take a)) (by rfl) HO3.out (.slice tA (n - a1) (cp - a1)) (n - a1) (strs (rows.drop a1)) (by rfl) R4.out (strs_oneCell _) (by unfold maxLen; omega) (by omega) hs4 ?_
                      intro v4 w4 ho4 hg4
                      have K4 := Lib.hid (grown_kept (p := fun x => w2.heap.size ≤ x) HO3.out hg4 (fun k hk => hk))
                      have B4x := Lib.hid (B3.out.grown hg4 hs4 (fun j hj => (HO3.out.lt j hj).1))
                      have HO4 := Lib.hid ho4
                      obtain ⟨b4, c4, hv4, _, _, _⟩ := own_form ho4
                      subst hv4
                      clear ho4 hg4
                      refine hK.out _ _ ?_ (fun hHeld => ?_)
                      · exact KO.out _ _ K4.out hHeld
                      clear hK K
                      (try simp only [Act.put, List.setIfInBounds_toArray, List.set_cons_zero, List.set_cons_succ])
                      refine wpAnyH_take (i := 14) (oi := { dst := some 9, op := Go.Op.assign (Go.Operand.tmp 126), type := 24, pos := "ref.go:220", after := #[{ on := 13, ground := Go.Ground.data }, { on := 13, ground := Go.Ground.chain }, { on := 0, ground := Go.Ground.phase }, { on := 1, ground := Go.Ground.phase }, { on := 2, ground := Go.Ground.phase }, { on := 3, ground := Go.Ground.phase }, { on := 4, ground := Go.Ground.phase }, { on := 5, ground := Go.Ground.phase }, { on := 6, ground := Go.Ground.phase }, { on := 7, ground := Go.Ground.phase }, { on := 8, ground := Go.Ground.phase }, { on := 9, ground := Go.Ground.phase }, { on := 10, ground := Go.Ground.phase }, { on := 11, ground := Go.Ground.phase }, { on := 12, ground := Go.Ground.phase }, { on := 13, ground := Go.Ground.phase }], guard := none }) (v := ?_) rfl (by kernel_rfl) (by kernel_rfl) (by kernel_rfl) (fun _ _ _ h => h) (Or.inl ⟨by rfl, ?_⟩) hHeld ?_
                      rotate_left
                      · (intro w hSw; go_simp <;> with_reducible rfl)
                      simp only [Act.put, List.setIfInBounds_toArray, List.set_cons_zero, List.set_cons_succ]
                      refine wpAnyH_done (by kernel_rfl) ?_ _
                      go_wp2_with fail
                      go_meet
                      rw [HQ1.out]
                      have hlen : a + (n - a1) = (rows.take a ++ rows.drop a1).length := by rw [List.length_append, List.length_drop, ← HLA.out, HN.out]
                      have ht4 := HO4.out
                      rw [← strs_append] at ht4
                      exact ⟨b4, a + (n - a1), c4, A, n, cp, rfl, Lib.hid ⟨hlen, rfl⟩, Lib.hid (texts_own ht4).1, Lib.hid (P6.out.below B4x.out), Lib.hid (R6.out.below B4x.out), Lib.hid (below_then B6.out B4x.out)⟩
            · as_aux_lemma =>
                have hle := (HNEAR.out rfl).1 (by decide)
                have HQ1 : Hid (Q = (⟨kind, level, id, plsn, next, rows.take a⟩, 0)) := by
                  show _ = _
                  rw [HQ.out]
                  show (if ((a : Nat) : Int).toNat ≤ rows.length then ((Pg.mk kind level id plsn next (rows.take ((a : Nat) : Int).toNat)), (0 : Int)) else _) = _
                  refine (if_pos ?_).trans rfl
                  have : ((a : Nat) : Int).toNat ≤ n := hle
                  rw [HN.out] at this
                  exact this
                have han : a ≤ n := by simpa using hle
                have hani : (a : Int) ≤ (n : Int) := by omega
                have ha0 : (0 : Int) ≤ (a : Int) := by omega
                have VT := Lib.hid (texts_own (own_take HO2.out han)).1
                have HKA : Hid (a = (rows.take a).length) := by
                  show _ = _
                  rw [List.length_take, ← HN.out]; omega
                clear HQ HWT HER HRR HMAY HKM HNEAR HU6 HT6 hle
                go_wp2_with fail
                go_meet
                rw [HQ1.out]
                exact ⟨b2, a, c2, A, n, cp, rfl, Lib.hid ⟨HKA.out, rfl⟩, VT, P6, R6, B6⟩
            · as_aux_lemma =>
                have HQ1 : Hid (Q = (⟨kind, level, id, plsn, next, rows ++ orows⟩, 0)) := HQ.out
                have ru := HU6.out.reads
                rw [← HM.out] at ru
                have RU := Lib.hid ru
                have HKA : Hid (n + m = (rows ++ orows).length) := by
                  show _ = _
                  rw [List.length_append, ← HN.out, ← HM.out]
                have hm9 : m ≤ 488 := by rw [HM.out]; exact hrl
                have hs2 : wq.heap.size ≤ w2.heap.size := hgl6
                clear HQ HWT HER HRR HMAY HKM HNEAR HT6 ru
                go_wp2_with (at_builtin; refine wpList_append_any _ rfl _ _ 24 rfl wq.heap.size 9 i0 (.string ⟨#[]⟩) 1 16 Try.underlying24 HI.out HI0.out HI1.out HI2.out rfl (by decide) (.slice b2 n c2) n (strs rows) (by rfl) HO2.out (.slice A2 m cp2) m (strs orows) (by rfl) RU.out (strs_oneCell _) (by unfold maxLen; omega) (by omega) hs2 ?_; intro v9 w9 ho9 hg9; have KG := Lib.hid (grown_kept (p := fun x => wq.heap.size ≤ x) HO2.out hg9 (fun k hk => hk)); rw [← strs_append] at ho9; have HO9 := Lib.hid ho9; obtain ⟨b9, c9, hv9, _, _, _⟩ := own_form ho9; subst hv9; clear ho9 hg9)
                go_meet
                rw [HQ1.out]
                exact ⟨b9, n + m, c9, A, n, cp, rfl, Lib.hid ⟨HKA.out, rfl⟩, Lib.hid (texts_own HO9.out).1, Lib.hid (P6.out.kept KG.out (by omega)), Lib.hid (R6.out.kept KG.out (by omega)), Lib.hid (OthersKept.below B6.out KG.out (fun k' hk' e => absurd (show wq.heap.size ≤ k' from e) (by omega)))⟩
            · as_aux_lemma =>
                have HQ1 : Hid (Q = (⟨kind, level, id, plsn, nx, rows⟩, 0)) := HQ.out
                obtain ⟨g0, g1, g2, g3, g4, g5⟩ := P6.out.fr
                have hwq : w.heap.size < wq.heap.size := by omega
                clear HQ HWT HER HRR HMAY HKM HNEAR HU6 HT6
                go_wp2_with fail
                go_meet
                rw [HQ1.out]
                have hk9 := one_kept w2 w.heap.size 4 (.int .u32 (nx : Nat))
                exact ⟨b2, n, c2, A, n, cp, rfl, Lib.hid ⟨HN.out, rfl⟩, Lib.hid (texts_own (hk9.owns HO2.out (fun j hj e => by have := (HO2.out.lt j hj).1; have h9 : j = w.heap.size := e; omega))).1, Lib.hid (P6.out.set4 nx), Lib.hid (R6.out.kept hk9 (by omega)), Lib.hid (OthersKept.below B6.out hk9 (fun k' hk' e => absurd (show k' = w.heap.size from e) (by omega)))⟩
            · as_aux_lemma =>
                have hlt := (HNEAR.out rfl).2 (.inr (.inr rfl))
                have han : a < n := by simpa using hlt
                have hani : (a : Int) < (n : Int) := by omega
                have ha0 : (0 : Int) ≤ (a : Int) := by omega
                have hal : a < rows.length := by rw [← HN.out]; exact han
                obtain ⟨ra, hra⟩ : ∃ ra, ra = rows[a] := ⟨_, rfl⟩
                have hrl2 : ra.length ≤ 1000000 := by
                  have := weightB_mem (List.getElem_mem hal)
                  rw [hra]; omega
                have hgd : rows.getD a [] = ra := by rw [hra]; simp [List.getD_eq_getElem?_getD, hal]
                have HQ0 : Hid (Q = (match setB ra f text with | some r => ((⟨kind, level, id, plsn, next, putRows rows a r true⟩ : Pg), (0 : Int)) | none => (⟨kind, level, id, plsn, next, rows⟩, 2))) := by
                  show _ = _
                  rw [HQ.out, ← hgd]
                  show (if ((a : Nat) : Int).toNat < rows.length then (match setB (rows.getD ((a : Nat) : Int).toNat []) ((f : Nat) : Int).toNat text with | some r => ((⟨kind, level, id, plsn, next, putRows rows ((a : Nat) : Int).toNat r true⟩ : Pg), (0 : Int)) | none => (⟨kind, level, id, plsn, next, rows⟩, 2)) else _) = _
                  exact (if_pos (by simpa using hal)).trans rfl
                have PT := Lib.hid fun W => patched_any ra f text W hrl2 (by omega) htl8
                obtain ⟨g2, hbg, cur, hg2⟩ : ∃ g2, b2 = some ⟨g2, 0, none⟩ ∧ ∃ cur, w2.heap[g2]? = some (.cells cur 9 (0, 0)) := by
                  rcases HO2.out.2 with ⟨_, h0⟩ | ⟨g, cap, cur, he, _, hg, _⟩
                  · omega
                  · injection he with he
                    exact ⟨g, he, cur, hg⟩
                subst hbg
                have hgb := (HO2.out.lt g2 rfl).1
                have x10 : w2.cell? ⟨g2, a, none⟩ = some (.string ⟨ra.toArray⟩) := by rw [hra]; exact own_cell HO2.out a _ (strs_get rows a hal)
                have xe2 := ext_cell x2 (cell_lt x2)
                have xe3 := ext_cell x3 (cell_lt x3)
                have xe4 := ext_cell x4 (cell_lt x4)
                have xe10 := ext_cell x10 (cell_lt x10)
                have x11 : w2.frozen? ⟨g2, a, none⟩ = false := blk_frozen hg2 a
                have HG2 := Lib.hid hg2
                have HAL := Lib.hid hal
                clear HQ HWT HER HMAY HKM HNEAR HU6 HT6 hlt hgd hra hal hg2
                go_upto_region 24 with fail
                cases hR : setB ra f text with
                | none =>
                  rw [hR] at HQ0
                  have HX : Hid (R = (Pg.zero, 2)) := by show _ = _; rw [HRR.out, HQ0.out]; rfl
                  have PN : Hid (∀ W, Calls Try.prog 87 #[.string ⟨ra.toArray⟩, .int .i64 f, .string ⟨text.toArray⟩] W fun e w' => e = .returned (.tuple #[.string ⟨#[]⟩, .bool false]) ∧ Below W.heap.size W w') := Lib.hid fun W => by have h := PT.out W; rw [hR] at h; exact h
                  clear PT hR HRR HQ0
                  refine wp_region_ext w2.heap.size (by kernel_rfl) (by kernel_rfl) ?_
                  repeat (go_big_quiet_step ((go_at_call 87; exact ext_call _ (Nat.le_refl _) (PN.out _))))
                  refine wpQuiet_nil ?_
                  rintro _ ⟨X, rfl⟩
                  have RX := Lib.hid (R6.out.below X.below)
                  have BX := Lib.hid (below_then B6.out X.below)
                  go_upto_region 26 with fail
                  go_cut [7] (fun s7 w' => s7 = .int .i64 2 ∧ Hid (PgBox w' (w.heap.size + 1 + 1) 0 0 0 0 0 (.slice none 0 0)) ∧ Hid (Below w.heap.size w w'))
                  case first =>
                    go_wp2_with (refine wpList_store_pg rfl (.tmp 6) (.tmp 161) rfl RX.out 0 0 0 0 0 none 0 0 (by rfl) (by rfl) ?_; intro wD hPD hKD; have XB := Lib.hid hPD; have XK := Lib.hid (OthersKept.below BX.out hKD (fun k hk e => by omega)); clear hPD hKD)
                    go_meet
                    exact ⟨rfl, XB, XK⟩
                  case rest =>
                    obtain ⟨rfl, XB, XK⟩ := hcut
                    refine (show ∀ (a : Act) (w : World), Code.wp _ Code.ret _ a w → _ from by assumption) _ _ ?_
                    apply wp_ret
                    refine bodyPost_ret (v := .tuple #[.agg #[.int .u8 (0 : Nat), .int .u8 (0 : Nat), .int .u32 (0 : Nat), .int .u64 (0 : Nat), .int .u32 (0 : Nat), .slice none 0 0], .int .i64 2]) (results_pg (p := 6) (u := 7) (by kernel_rfl) _ _ rfl XB.out) rfl ?_
                    exact PgPost.no HX.out XK.out
                | some r =>
                  rw [hR] at HQ0
                  have PN : Hid (∀ W, Calls Try.prog 87 #[.string ⟨ra.toArray⟩, .int .i64 f, .string ⟨text.toArray⟩] W fun e w' => e = .returned (.tuple #[.string ⟨r.toArray⟩, .bool true]) ∧ Below W.heap.size W w') := Lib.hid fun W => by have h := PT.out W; rw [hR] at h; exact h
                  have HQ1 : Hid (Q = (⟨kind, level, id, plsn, next, putRows rows a r true⟩, 0)) := HQ0.out
                  have HKA : Hid (n = (putRows rows a r true).length) := by
                    show _ = _
                    rw [HN.out]
                    have : (putRows rows a r true).length = (rows.take a ++ r :: rows.drop (a + 1)).length := rfl
                    rw [this]
                    have := HAL.out
                    simp; omega
                  clear PT hR HRR HQ0
                  refine wp_region_ext w2.heap.size (by kernel_rfl) (by kernel_rfl) ?_
                  repeat (go_big_quiet_step ((go_at_call 87; exact ext_call _ (Nat.le_refl _) (PN.out _))))
                  refine wpQuiet_nil ?_
                  rintro _ ⟨X, rfl⟩
                  have hbX := X.below
                  obtain ⟨wX, hwX⟩ : ∃ W, W = X.val := ⟨_, rfl⟩
                  have hcX := bcell hbX
                  rw [← hwX] at hbX hcX
                  have y2 := (hcX.1 _ _ (cell_lt x2)).trans x2
                  have y10 := (hcX.1 _ _ (cell_lt x10)).trans x10
                  have y11 := (hcX.2 g2 a (cell_lt x10)).trans x11
                  have OX := Lib.hid (own_below HO2.out hbX)
                  have PX := Lib.hid (P6.out.below hbX)
                  have RX := Lib.hid (R6.out.below hbX)
                  have BX := Lib.hid (below_then B6.out hbX)
                  have hgX : w2.heap.size ≤ wX.heap.size := hbX.size
                  rw [← hwX]
                  clear hbX hcX hwX xe2 xe3 xe4 xe10 x2 x3 x4 x10 x11
                  go_wp2_with fail
                  go_meet
                  rw [HQ1.out]
                  have hk9 := one_kept wX g2 a (.string ⟨r.toArray⟩)
                  exact ⟨some ⟨g2, 0, none⟩, n, c2, A, n, cp, rfl, Lib.hid ⟨HKA.out, rfl⟩, Lib.hid (texts_own (own_set_cell (x := r) OX.out HAL.out)).1, Lib.hid (PX.out.kept hk9 (by omega)), Lib.hid (RX.out.kept hk9 (by omega)), Lib.hid (OthersKept.below BX.out hk9 (fun k' hk' e => absurd (show k' = g2 from e) (by omega)))⟩
          case rest =>
            as_aux_lemma =>
              obtain ⟨b9, k9, c9, sb, sn, sc, hs9, HK, HTX, HPB, HRB, HB⟩ := hcut
              subst hs9
              clear p0 p1 p2 p3 p4 p5 x0 x1 x2 x3 x4 x5 x6 x7 x8 P6 O6 R6 B6 HU6 HT6 HO2 hgl5 hgl6 HQ HMAY HKM HNEAR HER
              have HR0 : Hid (R = if (Q.1.lsnTo lsn).may = true then (Q.1.lsnTo lsn, 0) else (Pg.zero, 4)) := by show _ = _; rw [HRR.out, if_pos HK.out.2]
              clear HRR
              obtain ⟨D, err⟩ := Q
              simp only at *
              have hwf := HWT.out
              obtain ⟨_, y0, y1, y2, y3, y4, y5⟩ := HPB.out.cells
              obtain ⟨f0, f1, f2, f3, f4, f5⟩ := HPB.out.fr
              have hlt9 : w.heap.size < wc.heap.size := HPB.out.lt
              clear HWT
              go_upto_region 30 with fail
              have hk1 := (one_kept wc w.heap.size 5 (.slice b9 k9 c9)).trans (one_kept (wc.setCell ⟨w.heap.size, 5, none⟩ (.slice b9 k9 c9)) w.heap.size 3 (.int .u64 lsn)) (fun _ _ h => h)
              have PA := (HPB.out.set5 (.slice b9 k9 c9)).set3 lsn
              have TA := Lib.hid (texts_page HPB.out HTX.out hk1 (fun _ x e => by cases e))
              have RA := Lib.hid (HRB.out.kept hk1 (by omega))
              have BA := Lib.hid (OthersKept.below HB.out hk1 (fun k hk e => by omega))
              generalize (wc.setCell ⟨w.heap.size, 5, none⟩ (.slice b9 k9 c9)).setCell ⟨w.heap.size, 3, none⟩ (.int .u64 lsn) = wA at *
              have MY := Lib.hid (refMay06_any (D.lsnTo lsn) (.slice b9 k9 c9) wA ⟨hwf.1.1, hwf.1.2.1, hwf.1.2.2.1, hl, hwf.1.2.2.2.2⟩ TA.out (by show weightB D.rows ≤ 1000000; omega))
              obtain ⟨my, hmy⟩ : ∃ b, b = (D.lsnTo lsn).may := ⟨_, rfl⟩
              rw [← hmy] at MY HR0
              unfold pgV at MY
              simp only [Pg.lsnTo] at MY HR0
              have HPA := Lib.hid PA
              clear hmy hwf hk1 HTX HRB HB HPB PA y0 y1 y2 y3 y4 y5 f0 f1 f2 f3 f4 f5
              obtain ⟨_, y0, y1, y2, y3, y4, y5⟩ := HPA.out.cells
              go_wp2_with fail
              refine (MY.out).mono ?_
              rintro e wB ⟨rfl, hb⟩
              have PB := HPA.out.below hb
              have RB := Lib.hid (RA.out.below hb)
              have BB := Lib.hid (below_then BA.out hb)
              have TB := Lib.hid (TA.out.below hb)
              clear hb MY HPA RA BA TA y0 y1 y2 y3 y4 y5
              obtain ⟨_, y0, y1, y2, y3, y4, y5⟩ := PB.cells
              obtain ⟨_, z0, z1, z2, z3, z4, z5⟩ := RB.out.cells
              obtain ⟨f0, f1, f2, f3, f4, f5⟩ := RB.out.fr
              have hltB : w.heap.size + 1 + 1 < wB.heap.size := RB.out.lt
              clear PB
              cases my with
              | false =>
                have HX : Hid (R = (Pg.zero, 4)) := HR0.out
                clear HR0 y0 y1 y2 y3 y4 y5 z0 z1 z2 z3 z4 z5 f0 f1 f2 f3 f4 f5
                go_upto_region 31 with fail
                go_cut [7] (fun s7 w' => s7 = .int .i64 4 ∧ Hid (PgBox w' (w.heap.size + 1 + 1) 0 0 0 0 0 (.slice none 0 0)) ∧ Hid (Below w.heap.size w w'))
                case first =>
                  go_wp2_with (refine wpList_store_pg rfl (.tmp 6) (.tmp 174) rfl RB.out 0 0 0 0 0 none 0 0 (by rfl) (by rfl) ?_; intro wD hPD hKD; have XB := Lib.hid hPD; have XK := Lib.hid (OthersKept.below BB.out hKD (fun k hk e => by omega)); clear hPD hKD)
                  go_meet
                  exact ⟨rfl, XB, XK⟩
                case rest =>
                  obtain ⟨rfl, XB, XK⟩ := hcut
                  refine (show ∀ (a : Act) (w : World), Code.wp _ Code.ret _ a w → _ from by assumption) _ _ ?_
                  apply wp_ret
                  refine bodyPost_ret (v := .tuple #[.agg #[.int .u8 (0 : Nat), .int .u8 (0 : Nat), .int .u32 (0 : Nat), .int .u64 (0 : Nat), .int .u32 (0 : Nat), .slice none 0 0], .int .i64 4]) (results_pg (p := 6) (u := 7) (by kernel_rfl) _ _ rfl XB.out) rfl ?_
                  exact PgPost.no HX.out XK.out
              | true =>
                have HX : Hid (R = (⟨D.kind, D.level, D.id, lsn, D.next, D.rows⟩, 0)) := HR0.out
                clear HR0 z0 z1 z2 z3 z4 z5 f0 f1 f2 f3 f4 f5
                go_upto_region 32 with fail
                go_cut [7] (fun s7 w' => s7 = .int .i64 0 ∧ Hid (PgBox w' (w.heap.size + 1 + 1) D.kind D.level D.id lsn D.next (.slice b9 k9 c9)) ∧ Hid (TextsAt w' (.slice b9 k9 c9) D.rows) ∧ Hid (Below w.heap.size w w'))
                case first =>
                  go_wp2_with (refine wpList_store_pg rfl (.tmp 6) (.tmp 175) rfl RB.out D.kind D.level D.id lsn D.next b9 k9 c9 (by rfl) (by rfl) ?_; intro wD hPD hKD; have XB := Lib.hid hPD; have XKK := Lib.hid hKD; have XK := Lib.hid (OthersKept.below BB.out hKD (fun k hk e => by omega)); clear hPD hKD)
                  go_meet
                  exact ⟨rfl, XB, Lib.hid (texts_page RB.out TB.out XKK.out (fun _ x e => by cases e)), XK⟩
                case rest =>
                  obtain ⟨rfl, XB, XT, XK⟩ := hcut
                  refine (show ∀ (a : Act) (w : World), Code.wp _ Code.ret _ a w → _ from by assumption) _ _ ?_
                  apply wp_ret
                  refine bodyPost_ret (v := .tuple #[.agg #[.int .u8 D.kind, .int .u8 D.level, .int .u32 D.id, .int .u64 lsn, .int .u32 D.next, .slice b9 k9 c9], .int .i64 0]) (results_pg (p := 6) (u := 7) (by kernel_rfl) _ _ rfl XB.out) rfl ?_
                  refine ⟨.slice b9 k9 c9, by rw [HX.out, HK.out.1]; rfl, ?_, XK.out⟩
                  rw [HX.out]
                  exact XT.out

end Go.Proofs.Ytienlhnbmobinaa
