/- Kept of our texts for this claim: SegPage -/
import Derived.Test.YtienlhnbmobinaaRows
import Derived.Test.YtienlhnbmobinaaTkAf
import Derived.Test.YtienlhnbmobinaaTkAg
import Derived.Test.YtienlhnbmobinaaTkAh
import Derived.Test.YtienlhnbmobinaaTkAj
import Derived.Test.YtienlhnbmobinaaTkAk
import Derived.Test.YtienlhnbmobinaaTkAo
import Derived.Test.YtienlhnbmobinaaTkAt
import Derived.Test.YtienlhnbmobinaaTkAu
import Derived.Test.YtienlhnbmobinaaTkAv
import Derived.Test.YtienlhnbmobinaaTkAw
import Derived.Test.YtienlhnbmobinaaTkAx
import Derived.Test.YtienlhnbmobinaaTkAa
import Derived.Test.YtienlhnbmobinaaTkAc
import Derived.Test.YtienlhnbmobinaaTkAb
import Derived.Test.YtienlhnbmobinaaTkAd
import Derived.Test.YtienlhnbmobinaaTkAe
import Derived.WalkKit
import Derived.WalkLawsBesides
import Derived.WalkSpells
import Derived.LoopTactic
import Derived.WalkMore
import Derived.LoopN
import Derived.Laws.BitsAllLaws
import Derived.Laws.IdiomStrings
import Derived.BigQuiet
import Derived.Deep.QuietTactic
import Derived.Deep.DeepCutAuto
import Derived.Deep.RegionHeld3
import Derived.Deep.DrawnRows
import Derived.Lib.Hide
import Derived.Outline
import Derived.Deep.DeepMust
import Derived.Handy
import Derived.Test.YtienlhnbmobinaaTkAi
import Derived.Test.YtienlhnbmobinaaTkAs
import Derived.Test.YtienlhnbmobinaaTkAq
import Derived.Test.YtienlhnbmobinaaTkAp
import Derived.Test.YtienlhnbmobinaaTkAl
import Derived.Test.YtienlhnbmobinaaTkAy
import Derived.Deep.CutBlock
import Derived.Deep.LoopGhost
import Derived.Deep.OwnRows
section
/- page of chapter 22: any page, or a head page of the rows that may be -/
namespace Go.Proofs.Ytienlhnbmobinaa
open Go.RowKit
set_option linter.unusedVariables false
set_option linter.unusedSimpArgs false
theorem reads_zero22 (w : World) (A : Option Addr) : Reads w (.slice A 0 0) 0 1 [] := by
  cases A with
  | none => exact .inl ⟨rfl, rfl, rfl⟩
  | some a => exact .inr ⟨a, 0, rfl, rfl, fun j u hu => by cases hu⟩
theorem TextsAt.back22 {w : World} {a : Addr} {n cp : Nat} {ts : List (List UInt8)} (h : TextsAt w (.slice (some a) n cp) ts) (k c : Nat) (hk : k ≤ n) : Reads w (.slice (some (a.add k)) (n - k) c) (n - k) 1 (strs (ts.drop k)) := by
  obtain ⟨A', cp', e, h2, h3, h4, h5⟩ := h
  injection e with e1 e2 e3
  subst e1; subst e3; subst e2
  refine .inr ⟨_, _, rfl, by simp [strs], fun j u hu => ?_⟩
  have hj : k + j < ts.length := by
    have := (List.getElem?_eq_some_iff.1 hu).1
    simp [strs] at this
    omega
  obtain ⟨b, o, e, _, hc⟩ := h5 (by omega)
  injection e with e
  subst e
  rw [strs_drop, List.getElem?_drop, strs_get ts _ hj] at hu
  injection hu with hu
  rw [← hu]
  simp only [Addr.add_lit]
  rw [Nat.add_assoc]
  exact hc _ hj
theorem own_mono22 {w : World} {base base' n size : Nat} {e : TypeId} {v : Value} {xs : List Value} (h : w.ownsRow base e size v n xs) (hb : base' ≤ base) : w.ownsRow base' e size v n xs := by
  refine ⟨h.1, ?_⟩
  rcases h.2 with h0 | ⟨g, cap, cur, h1, h2, h3⟩
  · exact .inl h0
  · exact .inr ⟨g, cap, cur, h1, Nat.le_trans hb h2, h3⟩
/-- What Put makes of a head page, and what is done with it. -/
theorem page_put {Lq : List Sg} (hP : SegP ⟨5, 0, 3, 0, 0, Lq.map Sg.enc⟩ Lq) {s : Sg} (hw : s.wf) :
    (∃ e : Int, sPutB ⟨5, 0, 3, 0, 0, Lq.map Sg.enc⟩ s = (Od.zero, e) ∧ (e != 0) = true) ∨
    (∃ L2 at_, sPutB ⟨5, 0, 3, 0, 0, Lq.map Sg.enc⟩ s = (⟨3, 3, (at_ : Nat), 0, s.enc, [], 0, 0, 0⟩, 0) ∧ SegP ⟨5, 0, 3, 0, 0, L2.map Sg.enc⟩ L2 ∧ L2.map Sg.enc = putRows (Lq.map Sg.enc) at_ s.enc true ∧ at_ < Lq.length ∧ L2.length = Lq.length) ∨
    (∃ L2 at_, sPutB ⟨5, 0, 3, 0, 0, Lq.map Sg.enc⟩ s = (⟨2, 3, (at_ : Nat), 0, s.enc, [], 0, 0, 0⟩, 0) ∧ SegP ⟨5, 0, 3, 0, 0, L2.map Sg.enc⟩ L2 ∧ L2.map Sg.enc = putRows (Lq.map Sg.enc) at_ s.enc false ∧ at_ ≤ Lq.length ∧ L2.length = Lq.length + 1) := by
  have hat := segAt_le Lq s.tx
  have hp := hP.2.2.2.2.2.1
  have h13 := hP.2.2.2.2.2.2
  have hnx : s.may = true → ∀ x ∈ segWith Lq s, x.may = true ∧ x.wf := fun hm x hx => by
    rcases (segWith_mem hp).1 hx with rfl | ⟨hx, _⟩
    · exact ⟨hm, hw⟩
    · exact hP.2.2.2.2.1 x hx
  unfold sPutB sPutO
  rw [hP.to]
  simp only
  by_cases hm : s.may = true
  · rw [if_pos hm]
    cases hb : segIs Lq s.tx with
    | true =>
      have hlt : segAt Lq s.tx < Lq.length := by
        obtain ⟨x, hx, hxt, _⟩ := seg_is_yes hb
        unfold segIs at hb
        by_cases h : segAt Lq s.tx < Lq.length
        · exact h
        · simp [h] at hb
      refine .inr (.inl ⟨segWith Lq s, segAt Lq s.tx, rfl, ?_, ?_, hlt, ?_⟩)
      · exact segP_next hP (by decide) (hnx hm) (segWith_pair hp) (by rw [segWith_len, hb]; exact h13)
      · rw [putRows_map]; unfold segWith; rw [hb]
      · rw [segWith_len, hb]; rfl
    | false =>
      rw [if_neg (by simp)]
      by_cases hr : roomB (Lq.map Sg.enc) < 31
      · rw [if_pos hr]
        exact .inl ⟨4, rfl, rfl⟩
      · rw [if_neg hr]
        have hlt : Lq.length < 13 := by
          have := hP.room
          simp only at this
          omega
        refine .inr (.inr ⟨segWith Lq s, segAt Lq s.tx, rfl, ?_, ?_, hat, ?_⟩)
        · exact segP_next hP (by decide) (hnx hm) (segWith_pair hp) (by rw [segWith_len, hb]; simp; omega)
        · rw [putRows_map]; unfold segWith; rw [hb]
        · rw [segWith_len, hb]; rfl
  · rw [if_neg hm]
    exact .inl ⟨2, rfl, rfl⟩
set_option maxHeartbeats 16000000 in
set_option maxRecDepth 100000 in
theorem page22_any (p : Pg) (sv : Value) (L : List Sg) (v : Value) (own : Bool) (w : World) (hp : p.wf) (ht : TextsAt w sv p.rows) (hb : weightB p.rows ≤ 1000000) (hl : SegsAt w v L) (hlw : ∀ s ∈ L, s.wf) (hn : L.length ≤ 40) :
    Calls Try.prog 57 #[pgV p sv, v, .bool own] w fun e w' => ∃ q sv', e = .returned (pgV q sv') ∧ q.wf ∧ weightB q.rows ≤ 1000000 ∧ TextsAt w' sv' q.rows ∧ Below w.heap.size w w' := by
  obtain ⟨n, hnx⟩ : ∃ n, n = p.rows.length := ⟨_, rfl⟩
  have HT := Lib.hid ht
  obtain ⟨A, cp, hsv, h2, h3, h4, h5⟩ := ht
  rw [← hnx] at hsv h2
  subst hsv
  unfold maxLen at h3
  obtain ⟨m, hmx⟩ : ∃ m, m = L.length := ⟨_, rfl⟩
  have HL := Lib.hid hl
  obtain ⟨LA, lc, hlv, l2, l3, l5⟩ := hl
  rw [← hmx] at hlv l2 hn
  subst hlv
  unfold maxLen at l3
  have HN := Lib.hid hnx
  have HM := Lib.hid hmx
  have HW := Lib.hid hlw
  have HWF := Lib.hid hp
  have HB := Lib.hid hb
  have CH := Lib.hid fun W => (head22_any 3 W)
  unfold pgV at CH
  simp only at CH
  clear h4 h5 l5 hnx hmx hlw hp hb
  obtain ⟨kind, level, id, lsn, next, rows⟩ := p
  simp only at HT HN HB
  obtain ⟨i0, hif, hz0, hz1, hz2⟩ := info_parts Try.infoStrM
  have HI := Lib.hid hif
  have HI0 := Lib.hid hz0
  have HI1 := Lib.hid hz1
  have HI2 := Lib.hid hz2
  clear hif hz0 hz1 hz2
  have b0 := alloc_below w (.cells #[.int .u8 kind, .int .u8 level, .int .u32 id, .int .u64 lsn, .int .u32 next, .slice A n cp] 26)
  have P0 := Lib.hid ((PgBox.new w kind level id lsn next (.slice A n cp)).keep (.cells #[.int .u8 0, .int .u8 0, .int .u32 0, .int .u64 0, .int .u32 0, .slice none 0 0] 26))
  have b1 := alloc_below (w.alloc (.cells #[.int .u8 kind, .int .u8 level, .int .u32 id, .int .u64 lsn, .int .u32 next, .slice A n cp] 26)) (.cells #[.int .u8 0, .int .u8 0, .int .u32 0, .int .u64 0, .int .u32 0, .slice none 0 0] 26)
  have B0 := Lib.hid (below_then b0 b1)
  have Z0 := Lib.hid (PgBox.zero (w.alloc (.cells #[.int .u8 kind, .int .u8 level, .int .u32 id, .int .u64 lsn, .int .u32 next, .slice A n cp] 26)))
  have hz1 : (w.alloc (.cells #[.int .u8 kind, .int .u8 level, .int .u32 id, .int .u64 lsn, .int .u32 next, .slice A n cp] 26)).heap.size = w.heap.size + 1 := by simp
  rw [hz1] at Z0
  have T0 := Lib.hid (HT.out.below B0.out)
  have HL0 := Lib.hid (HL.out.below B0.out)
  unfold pgV
  simp only
  clear b0 b1 hz1 HT HL
  go_enter Try.func57, Try.ntmps57
  go_upto_region 1 with fail
  generalize (w.alloc (.cells #[.int .u8 kind, .int .u8 level, .int .u32 id, .int .u64 lsn, .int .u32 next, .slice A n cp] 26)).alloc (.cells #[.int .u8 0, .int .u8 0, .int .u32 0, .int .u64 0, .int .u32 0, .slice none 0 0] 26) = w0 at *
  have hz : w.heap.size + 1 < w0.heap.size := Z0.out.lt
  cases own with
  | false =>
    clear CH HL0 HI HI0 HI1 HI2
    obtain ⟨x0, x1, x2, x3, x4, x5, x6⟩ := P0.out.cells
    go_wp2_with (refine wpList_store_pg rfl (.tmp 6) (.tmp 14) rfl Z0.out kind level id lsn next A n cp (by rfl) (by rfl) ?_; intro wS hP hK; have PS := Lib.hid hP; have KS := Lib.hid hK; clear hP hK)
    refine bodyPost_ret (results_pg1 (p := 6) (by kernel_rfl) _ _ rfl PS.out) rfl ?_
    exact ⟨⟨kind, level, id, lsn, next, rows⟩, _, rfl, HWF.out, HB.out, TextsAt.off_pg T0.out Z0.out (fun x e => by cases e) KS.out, OthersKept.below B0.out KS.out (fun k hk e => by omega)⟩
  | true =>
    clear P0 T0 HN HB HWF
    go_wp2_with fail
    refine (CH.out _).mono ?_
    rintro e w1 ⟨rfl, hb⟩
    have PB : Hid (PgBox (w1.alloc (.cells #[.int .u8 (5 : Nat), .int .u8 (0 : Nat), .int .u32 (3 : Nat), .int .u64 (0 : Nat), .int .u32 (0 : Nat), .slice none 0 0] 26)) w1.heap.size 5 0 3 0 0 (.slice none 0 0)) := PgBox.new w1 5 0 3 0 0 (.slice none 0 0)
    have BN := Lib.hid (below_then hb (alloc_below w1 (.cells #[.int .u8 (5 : Nat), .int .u8 (0 : Nat), .int .u32 (3 : Nat), .int .u64 (0 : Nat), .int .u32 (0 : Nat), .slice none 0 0] 26)))
    obtain ⟨g7, hg7⟩ : ∃ z, z = w1.heap.size := ⟨_, rfl⟩
    have h07 : w0.heap.size ≤ g7 := by have := hb.size; omega
    go_upto_region 4 with fail
    rw [← hg7] at PB ⊢
    clear hb CH hg7
    generalize w1.alloc (.cells #[.int .u8 (5 : Nat), .int .u8 (0 : Nat), .int .u32 (3 : Nat), .int .u64 (0 : Nat), .int .u32 (0 : Nat), .slice none 0 0] 26) = w2 at *
    have Z2 := Lib.hid (Z0.out.below BN.out)
    have B2 := Lib.hid (below_then B0.out BN.out)
    have HL2 := Lib.hid (HL0.out.below BN.out)
    have lt7 := PB.out.lt
    obtain ⟨gB, hgB⟩ : ∃ z, z = w2.heap.size := ⟨_, rfl⟩
    clear Z0 B0 HL2
    go_wp2_with fail
    go_loopw [8] (fun s8 wr => ∃ (i : Nat) (Lq : List Sg) (A : Option Addr) (c : Nat), s8 = .int .i64 i ∧ i ≤ m ∧ Hid (SegP ⟨5, 0, 3, 0, 0, Lq.map Sg.enc⟩ Lq) ∧ Hid (PgBox wr g7 5 0 3 0 0 (.slice A Lq.length c)) ∧ Hid (wr.ownsRow gB 9 1 (.slice A Lq.length c) Lq.length (strs (Lq.map Sg.enc))) ∧ Hid (OthersKept w2 wr (fun k => k = g7 ∨ gB ≤ k))) (fun v _ => m - (intOf v).toNat)
    case atStart => exact ⟨0, [], none, 0, rfl, Nat.zero_le _, Lib.hid (head_seg 3 (by decide) (by decide)), PB, Lib.hid (World.ownsRow_nil _ _ _ _), Lib.hid (⟨rfl, rfl, rfl, Nat.le_refl _, fun _ _ _ => rfl⟩)⟩
    case round =>
      obtain ⟨i, Lq, A, c, rfl, hi, SP, PQ, OQ, KQ⟩ := hrel
      clear PB
      by_cases him : i < m
      case neg =>
        have hci : ¬ (i : Int) < (m : Int) := by omega
        have Z3 := Lib.hid (KQ.out.heap Z2.out (by omega))
        obtain ⟨nq, hnq⟩ : ∃ z, z = Lq.length := ⟨_, rfl⟩
        have HNQ := Lib.hid hnq
        rw [← hnq] at PQ
        have TQ := Lib.hid (texts_own OQ.out).1
        clear hnq
        obtain ⟨x0, x1, x2, x3, x4, x5, x6⟩ := PQ.out.cells
        have B3 := Lib.hid (OthersKept.below B2.out KQ.out (fun k hk e => by omega))
        have FI := SP.out.fits
        go_wp2_with (refine wpList_store_pg rfl (.tmp 6) (.tmp 63) rfl Z3.out 5 0 3 0 0 A nq c (by rfl) (by rfl) ?_; intro wS hP hK; have PS := Lib.hid hP; have KS := Lib.hid hK; clear hP hK)
        refine bodyPost_ret (results_pg1 (p := 6) (by kernel_rfl) _ _ rfl PS.out) rfl ?_
        exact ⟨⟨5, 0, 3, 0, 0, Lq.map Sg.enc⟩, _, rfl, FI.1, Nat.le_trans FI.2.1 (by decide), TextsAt.off_pg (by have := TQ.out; rw [← HNQ.out] at this; exact this) Z3.out (fun x e => by cases e) KS.out, OthersKept.below B3.out KS.out (fun k hk e => by omega)⟩
      have hci : (i : Int) < (m : Int) := by omega
      have hi0 : (0 : Int) ≤ (i : Int) := by omega
      have hil : i < L.length := by rw [← HM.out]; exact him
      have BW := Lib.hid (OthersKept.below BN.out KQ.out (fun k hk e => by omega))
      obtain ⟨b7, o7, hLA, hb7, hc7⟩ := (HL0.out.below BW.out).row7 HM.out (by omega)
      have hc8 := hc7 i hil
      have hsw := HW.out _ (List.getElem_mem hil)
      subst hLA
      generalize L[i] = s at *
      obtain ⟨s0, s1, s2, s3, s4, s5, s6⟩ := s
      simp only at hc8
      have C7 := Lib.hid fun W (hW : Below wr.heap.size wr W) => (⟨(hW.cell (p := ⟨b7, o7 + i * 7, none⟩) hb7).trans hc8.1, (hW.cell (p := ⟨b7, o7 + i * 7 + 1, none⟩) hb7).trans hc8.2.1, (hW.cell (p := ⟨b7, o7 + i * 7 + 2, none⟩) hb7).trans hc8.2.2.1, (hW.cell (p := ⟨b7, o7 + i * 7 + 3, none⟩) hb7).trans hc8.2.2.2.1, (hW.cell (p := ⟨b7, o7 + i * 7 + 4, none⟩) hb7).trans hc8.2.2.2.2.1, (hW.cell (p := ⟨b7, o7 + i * 7 + 5, none⟩) hb7).trans hc8.2.2.2.2.2.1, (hW.cell (p := ⟨b7, o7 + i * 7 + 6, none⟩) hb7).trans hc8.2.2.2.2.2.2⟩ : W.cell? ⟨b7, o7 + i * 7, none⟩ = some (.int .u64 s0) ∧ W.cell? ⟨b7, o7 + i * 7 + 1, none⟩ = some (.int .u8 s1) ∧ W.cell? ⟨b7, o7 + i * 7 + 2, none⟩ = some (.int .u64 s2) ∧ W.cell? ⟨b7, o7 + i * 7 + 3, none⟩ = some (.int .u32 s3) ∧ W.cell? ⟨b7, o7 + i * 7 + 4, none⟩ = some (.int .u32 s4) ∧ W.cell? ⟨b7, o7 + i * 7 + 5, none⟩ = some (.int .u32 s5) ∧ W.cell? ⟨b7, o7 + i * 7 + 6, none⟩ = some (.int .u16 s6))
      have TQ := Lib.hid (texts_own OQ.out).1
      have CP := Lib.hid fun sv W h => refSegPut_any ⟨5, 0, 3, 0, 0, Lq.map Sg.enc⟩ sv ⟨s0, s1, s2, s3, s4, s5, s6⟩ W SP.out.1 h (Nat.le_trans SP.out.fits.2.1 (by decide)) hsw
      have LAW := Lib.hid (page_put SP.out hsw)
      obtain ⟨r, hr⟩ : ∃ r, r = sPutB ⟨5, 0, 3, 0, 0, Lq.map Sg.enc⟩ ⟨s0, s1, s2, s3, s4, s5, s6⟩ := ⟨_, rfl⟩
      rw [← hr] at CP LAW
      clear hr hc7 hc8
      obtain ⟨⟨o0, o1, o2, o3, o4, o5, o6, o7', o8⟩, er⟩ := r
      unfold pgV sgV odV at CP
      simp only at CP
      obtain ⟨nq, hnq⟩ : ∃ z, z = Lq.length := ⟨_, rfl⟩
      have HNQ := Lib.hid hnq
      rw [← hnq] at PQ TQ
      clear hnq
      go_upto_region 7 with fail
      go_cut [9, 10] (fun s9 s10 w' => ∃ X, s9 = .pointer (some ⟨X, 0, none⟩) ∧ s10 = .int .i64 er ∧ Hid (OAt w' X ⟨o0, o1, o2, o3, o4, o5, o6, o7', o8⟩ (.slice none 0 0)) ∧ wr.heap.size ≤ X ∧ Hid (Below wr.heap.size wr w'))
      case first =>
        refine wp_region_held_drew (S := fun W => Below wr.heap.size wr W ∧ True) (by kernel_rfl) (⟨(Below.refl _ _).drew, trivial⟩) (fun hHeld => ?_)
        generalize wr.drew = v0 at *
        refine wpAnyH_take (i := 0) (oi := { dst := some 23, op := Go.Op.load 26 (Go.Operand.tmp 7), type := 26, pos := "law.go:71", after := #[], guard := none }) (v := ?_) rfl (by kernel_rfl) (by kernel_rfl) (by kernel_rfl) (fun _ _ _ h => h) (Or.inl ⟨by rfl, ?_⟩) hHeld ?_
        rotate_left
        · (intro w hSw; obtain ⟨p0, p1, p2, p3, p4, p5, p6⟩ := (PQ.out.below hSw.1).cells; obtain ⟨z0, z1, z2, z3, z4, z5, z6⟩ := C7.out _ hSw.1; go_simp <;> with_reducible rfl)
        simp only [Act.put, List.setIfInBounds_toArray, List.set_cons_zero, List.set_cons_succ]
        refine wpAnyH_take (i := 1) (oi := { dst := some 24, op := Go.Op.move (Go.Operand.tmp 1), type := 79, pos := "law.go:71", after := #[], guard := none }) (v := ?_) rfl (by kernel_rfl) (by kernel_rfl) (by kernel_rfl) (fun _ _ _ h => h) (Or.inl ⟨by rfl, ?_⟩) hHeld ?_
        rotate_left
        · (intro w hSw; obtain ⟨p0, p1, p2, p3, p4, p5, p6⟩ := (PQ.out.below hSw.1).cells; obtain ⟨z0, z1, z2, z3, z4, z5, z6⟩ := C7.out _ hSw.1; go_simp <;> with_reducible rfl)
        simp only [Act.put, List.setIfInBounds_toArray, List.set_cons_zero, List.set_cons_succ]
        refine wpAnyH_take (i := 2) (oi := { dst := some 25, op := Go.Op.move (Go.Operand.tmp 8), type := 3, pos := "law.go:71", after := #[], guard := none }) (v := ?_) rfl (by kernel_rfl) (by kernel_rfl) (by kernel_rfl) (fun _ _ _ h => h) (Or.inl ⟨by rfl, ?_⟩) hHeld ?_
        rotate_left
        · (intro w hSw; obtain ⟨p0, p1, p2, p3, p4, p5, p6⟩ := (PQ.out.below hSw.1).cells; obtain ⟨z0, z1, z2, z3, z4, z5, z6⟩ := C7.out _ hSw.1; go_simp <;> with_reducible rfl)
        simp only [Act.put, List.setIfInBounds_toArray, List.set_cons_zero, List.set_cons_succ]
        refine wpAnyH_take (i := 3) (oi := { dst := some 26, op := Go.Op.indexAddr 79 (Go.Operand.tmp 24) (Go.Operand.tmp 25), type := 0, pos := "law.go:71", after := #[{ on := 1, ground := Go.Ground.data }, { on := 2, ground := Go.Ground.data }], guard := none }) (v := ?_) rfl (by kernel_rfl) (by kernel_rfl) (by kernel_rfl) (fun _ _ _ h => h) (Or.inl ⟨by rfl, ?_⟩) hHeld ?_
        rotate_left
        · (intro w hSw; obtain ⟨p0, p1, p2, p3, p4, p5, p6⟩ := (PQ.out.below hSw.1).cells; obtain ⟨z0, z1, z2, z3, z4, z5, z6⟩ := C7.out _ hSw.1; go_simp <;> with_reducible rfl)
        simp only [Act.put, List.setIfInBounds_toArray, List.set_cons_zero, List.set_cons_succ]
        refine wpAnyH_take (i := 4) (oi := { dst := some 27, op := Go.Op.load 83 (Go.Operand.tmp 26), type := 83, pos := "law.go:71", after := #[{ on := 3, ground := Go.Ground.data }], guard := none }) (v := ?_) rfl (by kernel_rfl) (by kernel_rfl) (by kernel_rfl) (fun _ _ _ h => h) (Or.inl ⟨by rfl, ?_⟩) hHeld ?_
        rotate_left
        · (intro w hSw; obtain ⟨p0, p1, p2, p3, p4, p5, p6⟩ := (PQ.out.below hSw.1).cells; obtain ⟨z0, z1, z2, z3, z4, z5, z6⟩ := C7.out _ hSw.1; go_simp <;> with_reducible rfl)
        simp only [Act.put, List.setIfInBounds_toArray, List.set_cons_zero, List.set_cons_succ]
        refine wpAnyH_ready (rs := [5, 9]) (by kernel_rfl) (by simp) (AllReadyH.cons (o := { dst := some 28, op := Go.Op.call { callee := Go.Callee.value (Go.Operand.func 71), args := #[Go.Operand.tmp 23, Go.Operand.tmp 27], argTypes := #[26, 83] }, type := 48, pos := "law.go:71", after := #[{ on := 0, ground := Go.Ground.data }, { on := 4, ground := Go.Ground.data }], guard := none }) rfl (fun K hK => ?_) (AllReadyH.cons (o := { dst := some 9, op := Go.Op.alloc 28, type := 0, pos := "law.go:71", after := #[], guard := none }) rfl (fun K hK => ?_) AllReadyH.nil))
        · go_simp
          refine (CP.out _ _ (TQ.out.below hHeld.1)).mono ?_
          rintro e v9 ⟨rfl, hb⟩
          have hS9 := Lib.hid (And.intro (below_then hHeld.1 hb) trivial)
          clear hb hHeld
          refine hK.out _ _ ?_ (fun hHeld => ?_)
          · exact hS9.out
          clear hK K
          (try simp only [Act.put, List.setIfInBounds_toArray, List.set_cons_zero, List.set_cons_succ])
          refine wpAnyH_take (i := 6) (oi := { dst := some 22, op := Go.Op.move (Go.Operand.tmp 28), type := 48, pos := "law.go:71", after := #[{ on := 5, ground := Go.Ground.data }], guard := none }) (v := ?_) rfl (by kernel_rfl) (by kernel_rfl) (by kernel_rfl) (fun _ _ _ h => h) (Or.inl ⟨by rfl, ?_⟩) hHeld ?_
          rotate_left
          · (intro w hSw; obtain ⟨p0, p1, p2, p3, p4, p5, p6⟩ := (PQ.out.below hSw.1).cells; obtain ⟨z0, z1, z2, z3, z4, z5, z6⟩ := C7.out _ hSw.1; go_simp <;> with_reducible rfl)
          simp only [Act.put, List.setIfInBounds_toArray, List.set_cons_zero, List.set_cons_succ]
          refine wpAnyH_take (i := 7) (oi := { dst := some 29, op := Go.Op.extract (Go.Operand.tmp 22) 0, type := 28, pos := "law.go:71", after := #[{ on := 6, ground := Go.Ground.data }], guard := none }) (v := ?_) rfl (by kernel_rfl) (by kernel_rfl) (by kernel_rfl) (fun _ _ _ h => h) (Or.inl ⟨by rfl, ?_⟩) hHeld ?_
          rotate_left
          · (intro w hSw; obtain ⟨p0, p1, p2, p3, p4, p5, p6⟩ := (PQ.out.below hSw.1).cells; obtain ⟨z0, z1, z2, z3, z4, z5, z6⟩ := C7.out _ hSw.1; go_simp <;> with_reducible rfl)
          simp only [Act.put, List.setIfInBounds_toArray, List.set_cons_zero, List.set_cons_succ]
          refine wpAnyH_take (i := 8) (oi := { dst := some 30, op := Go.Op.extract (Go.Operand.tmp 22) 1, type := 34, pos := "law.go:71", after := #[{ on := 6, ground := Go.Ground.data }, { on := 10, ground := Go.Ground.gcOnly Go.Departure.lateStores }], guard := none }) (v := ?_) rfl (by kernel_rfl) (by kernel_rfl) (by kernel_rfl) (fun _ _ _ h => h) (Or.inl ⟨by rfl, ?_⟩) hHeld ?_
          rotate_left
          · (intro w hSw; obtain ⟨p0, p1, p2, p3, p4, p5, p6⟩ := (PQ.out.below hSw.1).cells; obtain ⟨z0, z1, z2, z3, z4, z5, z6⟩ := C7.out _ hSw.1; go_simp <;> with_reducible rfl)
          simp only [Act.put, List.setIfInBounds_toArray, List.set_cons_zero, List.set_cons_succ]
          refine wpAnyH_ready (rs := [9]) (by kernel_rfl) (by simp) (AllReadyH.cons (o := { dst := some 9, op := Go.Op.alloc 28, type := 0, pos := "law.go:71", after := #[], guard := none }) rfl (fun K hK => ?_) AllReadyH.nil)
          · go_simp
            have ZZ : Hid (OAt (v9.alloc (.cells #[.int .u8 0, .int .u32 0, .int .i64 0, .int .i64 0, .string ⟨#[]⟩, .slice none 0 0, .int .u8 0, .int .u8 0, .int .u32 0] 28)) v9.heap.size Od.zero (.slice none 0 0)) := OAt.new v9 Od.zero (.slice none 0 0)
            have hS8 := Lib.hid (And.intro (below_then hHeld.1 (alloc_below v9 (.cells #[.int .u8 0, .int .u32 0, .int .i64 0, .int .i64 0, .string ⟨#[]⟩, .slice none 0 0, .int .u8 0, .int .u8 0, .int .u32 0] 28))) trivial)
            have hgX : wr.heap.size ≤ v9.heap.size := hHeld.1.size
            obtain ⟨X, hX⟩ : ∃ z, z = v9.heap.size := ⟨_, rfl⟩
            rw [← hX] at ZZ hgX ⊢
            generalize v9.alloc (.cells #[.int .u8 0, .int .u32 0, .int .i64 0, .int .i64 0, .string ⟨#[]⟩, .slice none 0 0, .int .u8 0, .int .u8 0, .int .u32 0] 28) = v8 at *
            clear hX hHeld
            refine hK.out _ _ ?_ (fun hHeld => ?_)
            · exact hS8.out
            clear hK K
            (try simp only [Act.put, List.setIfInBounds_toArray, List.set_cons_zero, List.set_cons_succ])
            refine wpAnyH_ready (rs := [10]) (by kernel_rfl) (by simp) (AllReadyH.cons (o := { dst := none, op := Go.Op.store 28 (Go.Operand.tmp 9) (Go.Operand.tmp 29), type := 0, pos := "law.go:71", after := #[{ on := 9, ground := Go.Ground.data }, { on := 7, ground := Go.Ground.data }, { on := 5, ground := Go.Ground.chain }, { on := 0, ground := Go.Ground.phase }, { on := 1, ground := Go.Ground.phase }, { on := 2, ground := Go.Ground.phase }, { on := 3, ground := Go.Ground.phase }, { on := 4, ground := Go.Ground.phase }, { on := 5, ground := Go.Ground.phase }, { on := 6, ground := Go.Ground.phase }, { on := 7, ground := Go.Ground.phase }, { on := 8, ground := Go.Ground.textOnly Go.Departure.lateStores }, { on := 9, ground := Go.Ground.phase }], guard := none }) rfl (fun K hK => ?_) AllReadyH.nil)
            · refine step_store_op rfl (.tmp 9) (.tmp 29) rfl ZZ.out ⟨o0, o1, o2, o3, o4, o5, o6, o7', o8⟩ none 0 0 (by rfl) (by rfl) ?_
              intro v7 hOq hKq
              have OS := Lib.hid hOq
              have hS7 := Lib.hid (And.intro (OthersKept.below hHeld.1 hKq (fun k hk e => by omega)) trivial)
              clear hOq hKq hHeld
              refine hK.out _ _ ?_ (fun hHeld => ?_)
              · exact hS7.out
              clear hK K
              (try simp only [Act.put, List.setIfInBounds_toArray, List.set_cons_zero, List.set_cons_succ])
              refine wpAnyH_take (i := 11) (oi := { dst := some 10, op := Go.Op.assign (Go.Operand.tmp 30), type := 34, pos := "law.go:71", after := #[{ on := 8, ground := Go.Ground.data }, { on := 10, ground := Go.Ground.chain }, { on := 0, ground := Go.Ground.phase }, { on := 1, ground := Go.Ground.phase }, { on := 2, ground := Go.Ground.phase }, { on := 3, ground := Go.Ground.phase }, { on := 4, ground := Go.Ground.phase }, { on := 5, ground := Go.Ground.phase }, { on := 6, ground := Go.Ground.phase }, { on := 7, ground := Go.Ground.phase }, { on := 8, ground := Go.Ground.phase }, { on := 9, ground := Go.Ground.phase }, { on := 10, ground := Go.Ground.phase }], guard := none }) (v := ?_) rfl (by kernel_rfl) (by kernel_rfl) (by kernel_rfl) (fun _ _ _ h => h) (Or.inl ⟨by rfl, ?_⟩) hHeld ?_
              rotate_left
              · (intro w hSw; obtain ⟨p0, p1, p2, p3, p4, p5, p6⟩ := (PQ.out.below hSw.1).cells; obtain ⟨z0, z1, z2, z3, z4, z5, z6⟩ := C7.out _ hSw.1; go_simp <;> with_reducible rfl)
              simp only [Act.put, List.setIfInBounds_toArray, List.set_cons_zero, List.set_cons_succ]
              refine wpAnyH_done (by kernel_rfl) ?_ _
              go_wp2_with fail
              go_meet
              exact ⟨X, rfl, rfl, OS, hgX, Lib.hid hHeld.1⟩
        · go_simp
          have ZZ : Hid (OAt (v0.alloc (.cells #[.int .u8 0, .int .u32 0, .int .i64 0, .int .i64 0, .string ⟨#[]⟩, .slice none 0 0, .int .u8 0, .int .u8 0, .int .u32 0] 28)) v0.heap.size Od.zero (.slice none 0 0)) := OAt.new v0 Od.zero (.slice none 0 0)
          have hS8 := Lib.hid (And.intro (below_then hHeld.1 (alloc_below v0 (.cells #[.int .u8 0, .int .u32 0, .int .i64 0, .int .i64 0, .string ⟨#[]⟩, .slice none 0 0, .int .u8 0, .int .u8 0, .int .u32 0] 28))) trivial)
          have hgX : wr.heap.size ≤ v0.heap.size := hHeld.1.size
          obtain ⟨X, hX⟩ : ∃ z, z = v0.heap.size := ⟨_, rfl⟩
          rw [← hX] at ZZ hgX ⊢
          generalize v0.alloc (.cells #[.int .u8 0, .int .u32 0, .int .i64 0, .int .i64 0, .string ⟨#[]⟩, .slice none 0 0, .int .u8 0, .int .u8 0, .int .u32 0] 28) = v8 at *
          clear hX hHeld
          refine hK.out _ _ ?_ (fun hHeld => ?_)
          · exact hS8.out
          clear hK K
          (try simp only [Act.put, List.setIfInBounds_toArray, List.set_cons_zero, List.set_cons_succ])
          refine wpAnyH_ready (rs := [5]) (by kernel_rfl) (by simp) (AllReadyH.cons (o := { dst := some 28, op := Go.Op.call { callee := Go.Callee.value (Go.Operand.func 71), args := #[Go.Operand.tmp 23, Go.Operand.tmp 27], argTypes := #[26, 83] }, type := 48, pos := "law.go:71", after := #[{ on := 0, ground := Go.Ground.data }, { on := 4, ground := Go.Ground.data }], guard := none }) rfl (fun K hK => ?_) AllReadyH.nil)
          · go_simp
            refine (CP.out _ _ (TQ.out.below hHeld.1)).mono ?_
            rintro e v9 ⟨rfl, hb⟩
            have hS9 := Lib.hid (And.intro (below_then hHeld.1 hb) trivial)
            have ZZ := Lib.hid (ZZ.out.under hb)
            clear hb hHeld
            refine hK.out _ _ ?_ (fun hHeld => ?_)
            · exact hS9.out
            clear hK K
            (try simp only [Act.put, List.setIfInBounds_toArray, List.set_cons_zero, List.set_cons_succ])
            refine wpAnyH_take (i := 6) (oi := { dst := some 22, op := Go.Op.move (Go.Operand.tmp 28), type := 48, pos := "law.go:71", after := #[{ on := 5, ground := Go.Ground.data }], guard := none }) (v := ?_) rfl (by kernel_rfl) (by kernel_rfl) (by kernel_rfl) (fun _ _ _ h => h) (Or.inl ⟨by rfl, ?_⟩) hHeld ?_
            rotate_left
            · (intro w hSw; obtain ⟨p0, p1, p2, p3, p4, p5, p6⟩ := (PQ.out.below hSw.1).cells; obtain ⟨z0, z1, z2, z3, z4, z5, z6⟩ := C7.out _ hSw.1; go_simp <;> with_reducible rfl)
            simp only [Act.put, List.setIfInBounds_toArray, List.set_cons_zero, List.set_cons_succ]
            refine wpAnyH_take (i := 7) (oi := { dst := some 29, op := Go.Op.extract (Go.Operand.tmp 22) 0, type := 28, pos := "law.go:71", after := #[{ on := 6, ground := Go.Ground.data }], guard := none }) (v := ?_) rfl (by kernel_rfl) (by kernel_rfl) (by kernel_rfl) (fun _ _ _ h => h) (Or.inl ⟨by rfl, ?_⟩) hHeld ?_
            rotate_left
            · (intro w hSw; obtain ⟨p0, p1, p2, p3, p4, p5, p6⟩ := (PQ.out.below hSw.1).cells; obtain ⟨z0, z1, z2, z3, z4, z5, z6⟩ := C7.out _ hSw.1; go_simp <;> with_reducible rfl)
            simp only [Act.put, List.setIfInBounds_toArray, List.set_cons_zero, List.set_cons_succ]
            refine wpAnyH_take (i := 8) (oi := { dst := some 30, op := Go.Op.extract (Go.Operand.tmp 22) 1, type := 34, pos := "law.go:71", after := #[{ on := 6, ground := Go.Ground.data }, { on := 10, ground := Go.Ground.gcOnly Go.Departure.lateStores }], guard := none }) (v := ?_) rfl (by kernel_rfl) (by kernel_rfl) (by kernel_rfl) (fun _ _ _ h => h) (Or.inl ⟨by rfl, ?_⟩) hHeld ?_
            rotate_left
            · (intro w hSw; obtain ⟨p0, p1, p2, p3, p4, p5, p6⟩ := (PQ.out.below hSw.1).cells; obtain ⟨z0, z1, z2, z3, z4, z5, z6⟩ := C7.out _ hSw.1; go_simp <;> with_reducible rfl)
            simp only [Act.put, List.setIfInBounds_toArray, List.set_cons_zero, List.set_cons_succ]
            refine wpAnyH_ready (rs := [10]) (by kernel_rfl) (by simp) (AllReadyH.cons (o := { dst := none, op := Go.Op.store 28 (Go.Operand.tmp 9) (Go.Operand.tmp 29), type := 0, pos := "law.go:71", after := #[{ on := 9, ground := Go.Ground.data }, { on := 7, ground := Go.Ground.data }, { on := 5, ground := Go.Ground.chain }, { on := 0, ground := Go.Ground.phase }, { on := 1, ground := Go.Ground.phase }, { on := 2, ground := Go.Ground.phase }, { on := 3, ground := Go.Ground.phase }, { on := 4, ground := Go.Ground.phase }, { on := 5, ground := Go.Ground.phase }, { on := 6, ground := Go.Ground.phase }, { on := 7, ground := Go.Ground.phase }, { on := 8, ground := Go.Ground.textOnly Go.Departure.lateStores }, { on := 9, ground := Go.Ground.phase }], guard := none }) rfl (fun K hK => ?_) AllReadyH.nil)
            · refine step_store_op rfl (.tmp 9) (.tmp 29) rfl ZZ.out ⟨o0, o1, o2, o3, o4, o5, o6, o7', o8⟩ none 0 0 (by rfl) (by rfl) ?_
              intro v7 hOq hKq
              have OS := Lib.hid hOq
              have hS7 := Lib.hid (And.intro (OthersKept.below hHeld.1 hKq (fun k hk e => by omega)) trivial)
              clear hOq hKq hHeld
              refine hK.out _ _ ?_ (fun hHeld => ?_)
              · exact hS7.out
              clear hK K
              (try simp only [Act.put, List.setIfInBounds_toArray, List.set_cons_zero, List.set_cons_succ])
              refine wpAnyH_take (i := 11) (oi := { dst := some 10, op := Go.Op.assign (Go.Operand.tmp 30), type := 34, pos := "law.go:71", after := #[{ on := 8, ground := Go.Ground.data }, { on := 10, ground := Go.Ground.chain }, { on := 0, ground := Go.Ground.phase }, { on := 1, ground := Go.Ground.phase }, { on := 2, ground := Go.Ground.phase }, { on := 3, ground := Go.Ground.phase }, { on := 4, ground := Go.Ground.phase }, { on := 5, ground := Go.Ground.phase }, { on := 6, ground := Go.Ground.phase }, { on := 7, ground := Go.Ground.phase }, { on := 8, ground := Go.Ground.phase }, { on := 9, ground := Go.Ground.phase }, { on := 10, ground := Go.Ground.phase }], guard := none }) (v := ?_) rfl (by kernel_rfl) (by kernel_rfl) (by kernel_rfl) (fun _ _ _ h => h) (Or.inl ⟨by rfl, ?_⟩) hHeld ?_
              rotate_left
              · (intro w hSw; obtain ⟨p0, p1, p2, p3, p4, p5, p6⟩ := (PQ.out.below hSw.1).cells; obtain ⟨z0, z1, z2, z3, z4, z5, z6⟩ := C7.out _ hSw.1; go_simp <;> with_reducible rfl)
              simp only [Act.put, List.setIfInBounds_toArray, List.set_cons_zero, List.set_cons_succ]
              refine wpAnyH_done (by kernel_rfl) ?_ _
              go_wp2_with fail
              go_meet
              exact ⟨X, rfl, rfl, OS, hgX, Lib.hid hHeld.1⟩
      case rest =>
        obtain ⟨X, rfl, rfl, OD, hXw, BX⟩ := hcut
        have P4 := Lib.hid (PQ.out.below BX.out)
        have O4 := Lib.hid (own_below OQ.out BX.out)
        have K4 := Lib.hid (OthersKept.then_below KQ.out BX.out)
        have hX4 := blk_lt OD.out
        clear PQ OQ KQ BX TQ CP C7
        generalize wc = w4 at *
        rcases LAW.out with ⟨e1, hput, her⟩ | ⟨L2, at_, hput, hSP, hrow, hat, hlen⟩ | ⟨L2, at_, hput, hSP, hrow, hat, hlen⟩
        case inl =>
          injection hput with hp1 hp2
          subst hp2
          clear hp1 LAW
          go_wp2_with fail
          exact ⟨⟨i + 1, Lq, A, c, by go_num, by omega, SP, Lib.hid (by rw [← HNQ.out]; exact P4.out), O4, K4⟩, by simp [intOf]; omega⟩
        case inr.inl =>
          injection hput with hp1 hp2
          injection hp1 with q0 q1 q2 q3 q4 q5 q6 q7 q8
          obtain ⟨b, c2, hv9, hcn, hcm, hbb⟩ := own_form O4.out
          injection hv9 with e1 e2 e3
          rw [← HNQ.out] at hat hcn hbb
          obtain ⟨g, hg, hgB2⟩ := hbb (by omega)
          have hA : A = some ⟨g, 0, none⟩ := e1.trans hg
          subst hA
          have hcc : nq ≤ c := by omega
          clear e1 e2 e3 hg hcm hcn
          subst q0
          subst q2
          subst q4
          subst hp2
          clear q1 q3 q5 q6 q7 q8 LAW
          have HAT := Lib.hid hat
          have SP2 := Lib.hid hSP
          have HROW := Lib.hid hrow
          have HLEN := Lib.hid hlen
          have hat1 : (at_ : Int) < (nq : Int) := by omega
          have hat0 : (0 : Int) ≤ (at_ : Int) := by omega
          have hgl : g < w4.heap.size := (O4.out.lt g rfl).2
          have hfz : w4.frozen? ⟨g, at_, none⟩ = false := by
            obtain ⟨cur, hc, _⟩ := own_cur O4.out
            exact blk_frozen hc _
          obtain ⟨told, hce⟩ : ∃ told : List UInt8, w4.cell? ⟨g, at_, none⟩ = some (.string ⟨told.toArray⟩) := ⟨_, own_cell O4.out at_ _ (strs_get _ _ (by rw [List.length_map, ← HNQ.out]; exact hat))⟩
          clear hSP hrow hlen hat
          obtain ⟨x0, x1, x2, x3, x4, x5, x6⟩ := P4.out.cells
          obtain ⟨y0, y1, y2, y3, y4, y5, y6, y7, y8⟩ := OD.out.cells
          simp only at y0 y1 y2 y3 y4 y5 y6 y7 y8
          obtain ⟨te, hte⟩ : ∃ z, z = Sg.enc ⟨s0, s1, s2, s3, s4, s5, s6⟩ := ⟨_, rfl⟩
          have HTE := Lib.hid hte
          rw [← hte] at y4
          clear hte
          have hk := Lib.hid (one_kept w4 g at_ (.string ⟨te.toArray⟩))
          have P5 := Lib.hid (hk.out.heap P4.out (by omega))
          have O5 := Lib.hid (own_set_cell (x := te) O4.out (by rw [List.length_map, ← HNQ.out]; exact HAT.out))
          have K5 := Lib.hid (OthersKept.trans K4.out hk.out (fun k hk e => .inr (by omega)))
          go_wp2_with fail
          exact ⟨⟨i + 1, L2, some ⟨g, 0, none⟩, c, by go_num, by omega, SP2, Lib.hid (by rw [HLEN.out, ← HNQ.out]; exact P5.out), Lib.hid (by rw [HLEN.out, HROW.out, ← HTE.out]; exact O5.out), K5⟩, by simp [intOf]; omega⟩
        case inr.inr =>
          injection hput with hp1 hp2
          injection hp1 with q0 q1 q2 q3 q4 q5 q6 q7 q8
          subst q0
          subst q2
          subst q4
          subst hp2
          clear q1 q3 q5 q6 q7 q8 LAW
          rw [← HNQ.out] at hat
          have hn13 : nq ≤ 13 := by have := SP.out.2.2.2.2.2.2; have := HNQ.out; omega
          have SP2 := Lib.hid hSP
          have HROW := Lib.hid hrow
          have HLEN := Lib.hid hlen
          obtain ⟨gR, hgR⟩ : ∃ z, z = w4.heap.size := ⟨_, rfl⟩
          have HGR := Lib.hid hgR
          have hgBR : gB ≤ gR := by have := K4.out.size; omega
          have hg7R : g7 < gR := by have := P4.out.lt; omega
          have hXR : X < gR := by omega
          clear hgR hSP hrow hlen
          obtain ⟨te, hte⟩ : ∃ z, z = Sg.enc ⟨s0, s1, s2, s3, s4, s5, s6⟩ := ⟨_, rfl⟩
          have HTE := Lib.hid hte
          clear hte
          have hg4 : gR ≤ w4.heap.size := by rw [HGR.out]; exact Nat.le_refl _
          have TQ4 := Lib.hid (show TextsAt w4 (.slice A nq c) (Lq.map Sg.enc) by have := (texts_own O4.out).1; rw [← HNQ.out] at this; exact this)
          have hnc : nq ≤ c ∧ c ≤ maxLen ∧ (A = none → nq = 0 ∧ c = 0) := by
            obtain ⟨A2, c2, e, r2, r3, r4, _⟩ := TQ4.out
            injection e with e1 e2 e3
            subst e1
            subst e3
            refine ⟨by rw [List.length_map, ← HNQ.out] at r2; exact r2, r3, fun h => ⟨?_, (r4 h).2⟩⟩
            have := (r4 h).1
            rw [HNQ.out]
            simpa using this
          obtain ⟨hnc1, hnc2, hnc3⟩ := hnc
          have HNC := Lib.hid hnc3
          unfold maxLen at hnc2
          clear hnc3
          have hl4 : ((Lq.map Sg.enc).take at_).length = at_ := by rw [List.length_take, List.length_map, ← HNQ.out]; omega
          have TA := Lib.hid ((TQ4.out.take at_ c hat (by omega) (Nat.le_refl _)).reads)
          rw [hl4] at TA
          clear hl4
          have hat0 : (0 : Int) ≤ (at_ : Int) := by omega
          have hat1 : (at_ : Int) ≤ (nq : Int) := by omega
          have hat2 : (at_ : Int) ≤ (c : Int) := by omega
          obtain ⟨x0, x1, x2, x3, x4, x5, x6⟩ := P4.out.cells
          obtain ⟨y0, y1, y2, y3, y4, y5, y6, y7, y8⟩ := OD.out.cells
          simp only at y0 y1 y2 y3 y4 y5 y6 y7 y8
          rw [← HTE.out] at y4
          by_cases hck : c = at_
          case pos =>
            obtain rfl : at_ = nq := by omega
            obtain rfl : at_ = c := hck.symm
            go_upto_region 13 with (at_builtin; refine wpList_append_any _ rfl _ _ 24 rfl gR 9 i0 (.string ⟨#[]⟩) 1 16 Try.underlying24 HI.out HI0.out HI1.out HI2.out rfl (by decide) (.slice none 0 0) 0 [] (by rfl) (World.ownsRow_nil _ _ _ _) (.slice A at_ at_) at_ (strs ((Lq.map Sg.enc).take at_)) (by rfl) TA.out (strs_oneCell _) (by unfold maxLen; omega) (by omega) (by omega) ?_; intro v5 w5 hown5 hgrow5; simp only [Nat.zero_add, List.nil_append] at hown5; have HO5 := Lib.hid hown5; have B5 := Lib.hid ((Below.refl w4.heap.size w4).grown hgrow5 (Nat.le_refl _) (fun j hj => by cases hj)); clear hown5 hgrow5)
            clear x0 x1 x2 x3 x4 x5 x6 y0 y1 y2 y3 y4 y5 y6 y7 y8
            have hs5 : gR ≤ w5.heap.size := by rw [HGR.out]; exact B5.out.size
            obtain ⟨y0, y1, y2, y3, y4, y5, y6, y7, y8⟩ := (OD.out.under B5.out).cells
            simp only at y0 y1 y2 y3 y4 y5 y6 y7 y8
            rw [← HTE.out] at y4
            go_upto_region 14 with (at_builtin; refine wpList_append_own _ rfl _ _ 24 rfl gR 9 i0 (.string ⟨#[]⟩) 1 16 Try.underlying24 HI.out HI0.out HI1.out HI2.out rfl (by decide) _ _ _ (by rfl) (HO5.out.alloc _) ⟨w5.heap.size, 0, none⟩ 1 1 [.string ⟨te.toArray⟩] (by rfl) rfl (one_new _ _ _) (one_str _) (by unfold maxLen; omega) (by omega) (by simp; omega) ?_; intro v6 w6 hown6 hgrow6 hnil6; clear hnil6; have HO6 := Lib.hid hown6; have B6 := Lib.hid ((below_then B5.out (alloc_below w5 (.cells #[.string ⟨te.toArray⟩] 9))).grown hgrow6 (by simp; have := B5.out.size; omega) (fun j hj => by have := (HO5.out.lt j hj).1; have := HGR.out; omega)); clear hown6 hgrow6)
            clear y0 y1 y2 y3 y4 y5 y6 y7 y8
            have hs6 : gR ≤ w6.heap.size := by rw [HGR.out]; exact B6.out.size
            obtain ⟨x0, x1, x2, x3, x4, x5, x6⟩ := (P4.out.below B6.out).cells
            obtain ⟨y0, y1, y2, y3, y4, y5, y6, y7, y8⟩ := (OD.out.under B6.out).cells
            simp only at y0 y1 y2 y3 y4 y5 y6 y7 y8
            obtain ⟨n8, hn8⟩ : ∃ z, z = L2.length := ⟨_, rfl⟩
            have HN8 := Lib.hid hn8
            have HN9 : Hid (at_ + 1 + 0 = n8) := by show _ = _; have h8 := HLEN.out; have h9 := HNQ.out; omega
            clear hn8
            go_wp2_with (at_builtin; refine wpList_append_any _ rfl _ _ 24 rfl gR 9 i0 (.string ⟨#[]⟩) 1 16 Try.underlying24 HI.out HI0.out HI1.out HI2.out rfl (by decide) _ _ _ (by rfl) HO6.out (.slice A 0 0) 0 [] (by rfl) (reads_zero22 _ A) (fun u hu => by cases hu) (by unfold maxLen; omega) (by omega) (by omega) ?_; intro v7 w7 hown7 hgrow7; rw [HN9.out] at hown7; obtain ⟨b8, c8, hv8, _, _, _⟩ := own_form hown7; subst hv8; have HO7 := Lib.hid hown7; have B7 := Lib.hid (B6.out.grown hgrow7 (by rw [← HGR.out]; exact hs6) (fun j hj => by have := (HO6.out.lt j hj).1; have := HGR.out; omega)); clear hown7 hgrow7; have P7 := Lib.hid (P4.out.below B7.out); obtain ⟨z0, z1, z2, z3, z4, z5, z6⟩ := P7.out.cells; obtain ⟨f0, f1, f2, f3, f4, f5⟩ := P7.out.fr)
            have hk := Lib.hid (one_kept w7 g7 5 (.slice b8 n8 c8))
            have P8 := Lib.hid (P7.out.set5 (.slice b8 n8 c8))
            have O8 : Hid (w7.ownsRow gB 9 1 (.slice b8 n8 c8) n8 (strs (L2.map Sg.enc))) := by
              have h1 := own_mono22 (base' := gB) HO7.out (by omega)
              have h3 : strs ((Lq.map Sg.enc).take at_) ++ [Value.string ⟨te.toArray⟩] ++ [] = strs (L2.map Sg.enc) := by
                rw [HROW.out, HTE.out]
                rw [List.take_of_length_le (by rw [List.length_map, ← HNQ.out]; exact Nat.le_refl _)]
                unfold putRows
                rw [List.take_of_length_le (by rw [List.length_map, ← HNQ.out]; exact Nat.le_refl _), List.drop_eq_nil_of_le (by simp [← HNQ.out])]
                simp [strs]
              rw [h3] at h1
              exact h1
            have O9 := Lib.hid (OthersKept.owns hk.out O8.out (fun q hq e => by have := (O8.out.lt q hq).1; omega))
            have K9 := Lib.hid (OthersKept.trans (OthersKept.then_below K4.out B7.out) hk.out (fun k hk e => .inl e))
            exact ⟨⟨i + 1, L2, b8, c8, by go_num, by omega, SP2, Lib.hid (by rw [← HN8.out]; exact P8.out), Lib.hid (by rw [← HN8.out]; exact O9.out), K9⟩, by simp [intOf]; omega⟩
          case neg =>
            obtain ⟨a, rfl⟩ : ∃ a, A = some a := by
              cases A with
              | none => have := (HNC.out rfl).2; omega
              | some a => exact ⟨a, rfl⟩
            go_upto_region 13 with (at_builtin; refine wpList_append_any _ rfl _ _ 24 rfl gR 9 i0 (.string ⟨#[]⟩) 1 16 Try.underlying24 HI.out HI0.out HI1.out HI2.out rfl (by decide) (.slice none 0 0) 0 [] (by rfl) (World.ownsRow_nil _ _ _ _) (.slice (some a) at_ c) at_ (strs ((Lq.map Sg.enc).take at_)) (by rfl) TA.out (strs_oneCell _) (by unfold maxLen; omega) (by omega) (by omega) ?_; intro v5 w5 hown5 hgrow5; simp only [Nat.zero_add, List.nil_append] at hown5; have HO5 := Lib.hid hown5; have B5 := Lib.hid ((Below.refl w4.heap.size w4).grown hgrow5 (Nat.le_refl _) (fun j hj => by cases hj)); clear hown5 hgrow5)
            clear x0 x1 x2 x3 x4 x5 x6 y0 y1 y2 y3 y4 y5 y6 y7 y8
            have hs5 : gR ≤ w5.heap.size := by rw [HGR.out]; exact B5.out.size
            obtain ⟨y0, y1, y2, y3, y4, y5, y6, y7, y8⟩ := (OD.out.under B5.out).cells
            simp only at y0 y1 y2 y3 y4 y5 y6 y7 y8
            rw [← HTE.out] at y4
            go_upto_region 14 with (at_builtin; refine wpList_append_own _ rfl _ _ 24 rfl gR 9 i0 (.string ⟨#[]⟩) 1 16 Try.underlying24 HI.out HI0.out HI1.out HI2.out rfl (by decide) _ _ _ (by rfl) (HO5.out.alloc _) ⟨w5.heap.size, 0, none⟩ 1 1 [.string ⟨te.toArray⟩] (by rfl) rfl (one_new _ _ _) (one_str _) (by unfold maxLen; omega) (by omega) (by simp; omega) ?_; intro v6 w6 hown6 hgrow6 hnil6; clear hnil6; have HO6 := Lib.hid hown6; have B6 := Lib.hid ((below_then B5.out (alloc_below w5 (.cells #[.string ⟨te.toArray⟩] 9))).grown hgrow6 (by simp; have := B5.out.size; omega) (fun j hj => by have := (HO5.out.lt j hj).1; have := HGR.out; omega)); clear hown6 hgrow6)
            clear y0 y1 y2 y3 y4 y5 y6 y7 y8
            have hs6 : gR ≤ w6.heap.size := by rw [HGR.out]; exact B6.out.size
            obtain ⟨x0, x1, x2, x3, x4, x5, x6⟩ := (P4.out.below B6.out).cells
            obtain ⟨y0, y1, y2, y3, y4, y5, y6, y7, y8⟩ := (OD.out.under B6.out).cells
            simp only at y0 y1 y2 y3 y4 y5 y6 y7 y8
            obtain ⟨n8, hn8⟩ : ∃ z, z = L2.length := ⟨_, rfl⟩
            have HN8 := Lib.hid hn8
            have HN9 : Hid (at_ + 1 + (nq - at_) = n8) := by show _ = _; have h8 := HLEN.out; have h9 := HNQ.out; omega
            clear hn8
            go_wp2_with (at_builtin; refine wpList_append_any _ rfl _ _ 24 rfl gR 9 i0 (.string ⟨#[]⟩) 1 16 Try.underlying24 HI.out HI0.out HI1.out HI2.out rfl (by decide) _ _ _ (by rfl) HO6.out (.slice (some (a.add at_)) (nq - at_) (c - at_)) (nq - at_) (strs ((Lq.map Sg.enc).drop at_)) (by rfl) ((TQ4.out.below B6.out).back22 at_ (c - at_) hat) (strs_oneCell _) (by unfold maxLen; omega) (by omega) (by omega) ?_; intro v7 w7 hown7 hgrow7; rw [HN9.out] at hown7; obtain ⟨b8, c8, hv8, _, _, _⟩ := own_form hown7; subst hv8; have HO7 := Lib.hid hown7; have B7 := Lib.hid (B6.out.grown hgrow7 (by rw [← HGR.out]; exact hs6) (fun j hj => by have := (HO6.out.lt j hj).1; have := HGR.out; omega)); clear hown7 hgrow7; have P7 := Lib.hid (P4.out.below B7.out); obtain ⟨z0, z1, z2, z3, z4, z5, z6⟩ := P7.out.cells; obtain ⟨f0, f1, f2, f3, f4, f5⟩ := P7.out.fr)
            have hk := Lib.hid (one_kept w7 g7 5 (.slice b8 n8 c8))
            have P8 := Lib.hid (P7.out.set5 (.slice b8 n8 c8))
            have O8 : Hid (w7.ownsRow gB 9 1 (.slice b8 n8 c8) n8 (strs (L2.map Sg.enc))) := by
              have h1 := own_mono22 (base' := gB) HO7.out (by omega)
              have h3 : strs ((Lq.map Sg.enc).take at_) ++ [Value.string ⟨te.toArray⟩] ++ (strs ((Lq.map Sg.enc).drop at_)) = strs (L2.map Sg.enc) := by
                rw [HROW.out, HTE.out]
                unfold putRows
                simp [strs]
              rw [h3] at h1
              exact h1
            have O9 := Lib.hid (OthersKept.owns hk.out O8.out (fun q hq e => by have := (O8.out.lt q hq).1; omega))
            have K9 := Lib.hid (OthersKept.trans (OthersKept.then_below K4.out B7.out) hk.out (fun k hk e => .inl e))
            exact ⟨⟨i + 1, L2, b8, c8, by go_num, by omega, SP2, Lib.hid (by rw [← HN8.out]; exact P8.out), Lib.hid (by rw [← HN8.out]; exact O9.out), K9⟩, by simp [intOf]; omega⟩
end Go.Proofs.Ytienlhnbmobinaa
end
