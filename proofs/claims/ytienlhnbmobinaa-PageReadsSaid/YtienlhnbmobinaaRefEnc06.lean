/- ref06.Encode by pgEnc -/
import Derived.Test.YtienlhnbmobinaaRows
import Derived.Test.YtienlhnbmobinaaPageNum
import Derived.Test.YtienlhnbmobinaaPagePlain
import Derived.Test.YtienlhnbmobinaaRefSeal
import Derived.Test.YtienlhnbmobinaaRefSum
import Derived.Test.YtienlhnbmobinaaSum
import Derived.Test.YtienlhnbmobinaaRefPut
import Derived.Test.YtienlhnbmobinaaRefBytes
import Derived.Test.YtienlhnbmobinaaRefRoot
import Derived.Test.YtienlhnbmobinaaSlotRoot
import Derived.Test.YtienlhnbmobinaaBase
import Derived.Test.YtienlhnbmobinaaPlains
import Derived.Test.YtienlhnbmobinaaTextsP
import Derived.Test.YtienlhnbmobinaaTextsMove
import Derived.Test.YtienlhnbmobinaaWordWalks
import Derived.Deep.CutBlock
import Derived.WalkKit
import Derived.WalkLawsBesides
import Derived.WalkSpells
import Derived.LoopTactic
import Derived.WalkMore
import Derived.LoopN
import Derived.Laws.BitsAllLaws
import Derived.Laws.IdiomStrings
import Derived.BigQuiet
import Derived.Deep.QuietTactic
import Derived.Deep.DeepCutAuto
import Derived.Deep.RegionHeld3
import Derived.Deep.DrawnRows
import Derived.Lib.Hide
import Derived.Outline
import Derived.Deep.DeepMust
import Derived.Handy
namespace Go.Proofs.Ytienlhnbmobinaa
open Go.RowKit
set_option linter.unusedVariables false
set_option linter.unusedSimpArgs false

set_option maxHeartbeats 2000000 in
theorem rnum_1 (n : Nat) (w : World) (hn : n < 256 ^ 1) : Calls Try.prog 100 #[.int .u64 n, .int .i64 1] w fun e w' => e = .returned (.string ⟨(be 1 n).toArray⟩) ∧ Below w.heap.size w w' := by
  have P := Lib.hid fun W => refPut_1 n W hn
  generalize be 1 n = l at *
  go_enter Try.func100, Try.ntmps100
  go_wp2_with fail
  refine (P.out _).mono ?_
  rintro e w1 ⟨rfl, hb⟩
  have HB := Lib.hid hb
  clear hb
  go_wp2_with fail
  go_ret
  exact ⟨rfl, HB.out⟩
set_option maxHeartbeats 2000000 in
theorem rnum_2 (n : Nat) (w : World) (hn : n < 256 ^ 2) : Calls Try.prog 100 #[.int .u64 n, .int .i64 2] w fun e w' => e = .returned (.string ⟨(be 2 n).toArray⟩) ∧ Below w.heap.size w w' := by
  have P := Lib.hid fun W => refPut_2 n W hn
  generalize be 2 n = l at *
  go_enter Try.func100, Try.ntmps100
  go_wp2_with fail
  refine (P.out _).mono ?_
  rintro e w1 ⟨rfl, hb⟩
  have HB := Lib.hid hb
  clear hb
  go_wp2_with fail
  go_ret
  exact ⟨rfl, HB.out⟩
set_option maxHeartbeats 2000000 in
theorem rnum_4 (n : Nat) (w : World) (hn : n < 256 ^ 4) : Calls Try.prog 100 #[.int .u64 n, .int .i64 4] w fun e w' => e = .returned (.string ⟨(be 4 n).toArray⟩) ∧ Below w.heap.size w w' := by
  have P := Lib.hid fun W => refPut_4 n W hn
  generalize be 4 n = l at *
  go_enter Try.func100, Try.ntmps100
  go_wp2_with fail
  refine (P.out _).mono ?_
  rintro e w1 ⟨rfl, hb⟩
  have HB := Lib.hid hb
  clear hb
  go_wp2_with fail
  go_ret
  exact ⟨rfl, HB.out⟩
set_option maxHeartbeats 2000000 in
theorem rnum_8 (n : Nat) (w : World) (hn : n < 256 ^ 8) : Calls Try.prog 100 #[.int .u64 n, .int .i64 8] w fun e w' => e = .returned (.string ⟨(be 8 n).toArray⟩) ∧ Below w.heap.size w w' := by
  have P := Lib.hid fun W => refPut_8 n W hn
  generalize be 8 n = l at *
  go_enter Try.func100, Try.ntmps100
  go_wp2_with fail
  refine (P.out _).mono ?_
  rintro e w1 ⟨rfl, hb⟩
  have HB := Lib.hid hb
  clear hb
  go_wp2_with fail
  go_ret
  exact ⟨rfl, HB.out⟩
set_option maxHeartbeats 8000000 in
set_option maxRecDepth 100000 in
theorem refEncode06_any (p : Pg) (sv : Value) (w : World) (hp : p.wf) (ht : TextsAt w sv p.rows) (hb : weightB p.rows ≤ 1000000) :
    Calls Try.prog 45 #[pgV p sv] w fun e w' => e = .returned (.tuple #[.string ⟨(pgEnc p).1.toArray⟩, .int .i64 (pgEnc p).2]) ∧ Below w.heap.size w w' := by
  have MY := Lib.hid fun W (hW : TextsAt W sv p.rows) => refMay06_any p sv W hp hW hb
  have HT := Lib.hid ht
  obtain ⟨kind, level, id, lsn, next, rows⟩ := p
  obtain ⟨A, cp, rfl, h2, h3, h4, h5⟩ := ht
  obtain ⟨n, hn⟩ : ∃ n, n = rows.length := ⟨_, rfl⟩
  simp only at *
  rw [← hn] at HT MY h2 ⊢
  have HN := Lib.hid hn
  have HP := Lib.hid hp
  have H5 := Lib.hid h5
  obtain ⟨my, hmy⟩ : ∃ b, b = (Pg.may ⟨kind, level, id, lsn, next, rows⟩) := ⟨_, rfl⟩
  rw [← hmy] at MY
  obtain ⟨R, hR⟩ : ∃ R, R = pgEnc ⟨kind, level, id, lsn, next, rows⟩ := ⟨_, rfl⟩
  rw [← hR]
  have HR : Hid (R = if my = true then (encPg ⟨kind, level, id, lsn, next, rows⟩, 0) else ([], 2)) := by show _ = _; rw [hR, hmy]; rfl
  have HMY := Lib.hid hmy
  clear hR hmy hn hp h4 h5
  unfold pgV at MY ⊢
  simp only at MY ⊢
  unfold maxLen at h3
  have P0 := Lib.hid (PgBox.new w kind level id lsn next (.slice A n cp))
  have B0 := Lib.hid (alloc_below w (.cells #[.int .u8 kind, .int .u8 level, .int .u32 id, .int .u64 lsn, .int .u32 next, .slice A n cp] 26))
  go_enter Try.func45, Try.ntmps45
  go_upto_region 1 with fail
  generalize w.alloc (.cells #[.int .u8 kind, .int .u8 level, .int .u32 id, .int .u64 lsn, .int .u32 next, .slice A n cp] 26) = w0 at *
  obtain ⟨pl, p0, p1, p2, p3, p4, p5⟩ := P0.out.cells
  go_wp2_with fail
  refine (MY.out _ (HT.out.below B0.out)).mono ?_
  rintro e w1 ⟨rfl, hb1⟩
  have B1 := Lib.hid (below_then B0.out hb1)
  have P1 := Lib.hid (P0.out.below hb1)
  clear hb1 pl p0 p1 p2 p3 p4 p5 P0 B0 MY
  cases hm : my with
  | false =>
    have HX : Hid (R = ([], 2)) := by show _ = _; rw [HR.out, hm]; rfl
    go_wp2_with fail
    go_ret2
    exact ⟨by rw [HX.out]; rfl, B1.out⟩
  | true =>
    have HX : Hid (R = (encPg ⟨kind, level, id, lsn, next, rows⟩, 0)) := by show _ = _; rw [HR.out, hm]; rfl
    have hmay := HMY.out
    rw [hm] at hmay
    have HMAY := Lib.hid hmay.symm
    clear hmay hm HR HMY
    have hpw := HP.out
    unfold Pg.wf at hpw
    simp only at hpw
    have HPW := Lib.hid hpw
    have N1 := Lib.hid fun (y : Ext w1.heap.size w1) => rnum_1 kind y.val (by simpa using HPW.out.1)
    have N2 := Lib.hid fun (y : Ext w1.heap.size w1) => rnum_1 level y.val (by simpa using HPW.out.2.1)
    have N3 := Lib.hid fun (y : Ext w1.heap.size w1) => rnum_4 id y.val HPW.out.2.2.1
    have N4 := Lib.hid fun (y : Ext w1.heap.size w1) => rnum_8 lsn y.val HPW.out.2.2.2.1
    have N5 := Lib.hid fun (y : Ext w1.heap.size w1) => rnum_4 next y.val HPW.out.2.2.2.2
    have N6 := Lib.hid fun (y : Ext w1.heap.size w1) => rnum_2 0 y.val (by decide)
    have v1 : IntKind.u64.wrap (kind : Int) = (kind : Int) := IntWalk.u64_in _ ⟨by omega, by omega⟩
    have v2 : IntKind.u64.wrap (level : Int) = (level : Int) := IntWalk.u64_in _ ⟨by omega, by omega⟩
    have v3 : IntKind.u64.wrap (id : Int) = (id : Int) := IntWalk.u64_in _ ⟨by omega, by have := hpw.2.2.1; simp at this; omega⟩
    have v5 : IntKind.u64.wrap (next : Int) = (next : Int) := IntWalk.u64_in _ ⟨by omega, by have := hpw.2.2.2.2; simp at this; omega⟩
    have HHD : Hid (headB ⟨kind, level, id, lsn, next, rows⟩ = be 1 kind ++ be 1 level ++ be 4 id ++ be 8 lsn ++ be 4 next ++ be 2 0) := by
      show _ = _
      unfold headB; simp only [List.append_assoc]
    have l1 := be_length 1 kind
    have l2 := be_length 1 level
    have l3 := be_length 4 id
    have l4 := be_length 8 lsn
    have l5 := be_length 4 next
    have l6 := be_length 2 0
    generalize be 1 kind = q1 at *
    generalize be 1 level = q2 at *
    generalize be 4 id = q3 at *
    generalize be 8 lsn = q4 at *
    generalize be 4 next = q5 at *
    generalize be 2 0 = q6 at *
    have s12 : q1.length + q2.length ≤ maxLen := by unfold maxLen; omega
    obtain ⟨pl, p0, p1, p2, p3, p4, p5⟩ := P1.out.cells
    have x0 := ext_cell p0 pl
    have x1 := ext_cell p1 pl
    have x2 := ext_cell p2 pl
    have x3 := ext_cell p3 pl
    have x4 := ext_cell p4 pl
    clear hpw HPW
    go_upto_region 3 with fail
    refine wp_region_ext w1.heap.size (by kernel_rfl) (by kernel_rfl) ?_
    repeat (go_big_quiet_step (first
      | (go_at_call 100; with_reducible exact ext_call _ (Nat.le_refl _) (N1.out _))
      | (go_at_call 100; with_reducible exact ext_call _ (Nat.le_refl _) (N2.out _))
      | (go_at_call 100; with_reducible exact ext_call _ (Nat.le_refl _) (N3.out _))
      | (go_at_call 100; with_reducible exact ext_call _ (Nat.le_refl _) (N4.out _))
      | (go_at_call 100; with_reducible exact ext_call _ (Nat.le_refl _) (N5.out _))
      | (go_at_call 100; with_reducible exact ext_call _ (Nat.le_refl _) (N6.out _))))
    refine wpQuiet_nil ?_
    rintro _ ⟨X, rfl⟩
    have hbX := X.below
    generalize X.val = w2 at *
    have P2 := Lib.hid (P1.out.below hbX)
    have B2 := Lib.hid (below_then B1.out hbX)
    have hs2 : w.heap.size < w2.heap.size := P2.out.lt
    rw [byt_app, byt_app, byt_app, byt_app, byt_app, ← HHD.out]
    have HLN := Lib.hid (headB_length ⟨kind, level, id, lsn, next, rows⟩)
    generalize hgH : headB ⟨kind, level, id, lsn, next, rows⟩ = H at *
    have HGH := Lib.hid hgH
    clear hgH hbX N1 N2 N3 N4 N5 N6 v1 v2 v3 v5 l1 l2 l3 l4 l5 l6 s12 pl p0 p1 p2 p3 p4 p5 x0 x1 x2 x3 x4 HHD P1 B1 X
    go_wp2_with fail
    refine (refNew_yes 488 w2 (by omega) (by omega)).mono ?_
    rintro e w3 ⟨g, gB, rfl, hg, hgB, hA3, hb3⟩
    have A3 := Lib.hid hA3
    have P3 := Lib.hid (P2.out.below hb3)
    have B3 := Lib.hid (below_then B2.out hb3)
    have hw484 := Lib.hid (may_weight HMAY.out)
    clear hA3 hb3 P2 B2
    go_wp2_with fail
    go_loopw [6] (fun s6 wr => ∃ (k : Nat) (v : Value), s6 = .int .i64 k ∧ k ≤ n ∧ Hid (RefAt wr g gB 488 v (fillAr rows k)) ∧ Hid (∀ x, v.ownBlock = some x → w2.heap.size ≤ x) ∧ Hid (PgBox wr w.heap.size kind level id lsn next (.slice A n cp)) ∧ Hid (Below w.heap.size w wr) ∧ w2.heap.size ≤ wr.heap.size) (fun v _ => n - (intOf v).toNat)
    case atStart => exact ⟨0, _, rfl, Nat.zero_le _, A3, Lib.hid (fun x hx => by cases hx), P3, B3, by have := A3.out.row.lt; omega⟩
    case round =>
      obtain ⟨k, v, rfl, hk, HA, HV, HPB, HB, hsz⟩ := hrel
      clear A3 P3 B3
      by_cases hkn : k < n
      · have hki : (k : Int) < (n : Int) := by omega
        have hk0 : (0 : Int) ≤ (k : Int) := by omega
        have hkr : k < rows.length := by rw [← HN.out]; exact hkn
        obtain ⟨b0, o0, rfl, hb0, hcell⟩ := H5.out (by omega)
        have c0 := keep_cell HB.out (hcell k hkr)
        have FP := Lib.hid (fill_put rows hw484.out k hkr)
        have FO := Lib.hid (fill_ok rows hw484.out k (by omega))
        have hwm := weightB_mem (List.getElem_mem hkr)
        have hw9 := hw484.out
        have PA := Lib.hid fun W (hW : RefAt W g gB 488 v (fillAr rows k)) => refPut_any g gB 488 v (fillAr rows k) (k : Nat) ⟨rows[k].toArray⟩ W FO.out.1 (by show rows[k].toArray.size ≤ _; simp; omega) hW
        have e9 : (⟨rows[k].toArray⟩ : ByteArray).data.toList = rows[k] := rfl
        rw [e9, FP.out] at PA
        simp only at PA
        clear hcell FP FO hwm hw9 e9
        generalize rows[k] = r at *
        obtain ⟨pl, p0, p1, p2, p3, p4, p5⟩ := HPB.out.cells
        go_wp2_with fail
        refine (PA.out _ HA.out).mono ?_
        rintro e w5 ⟨rfl, v', h1, h2, h3⟩
        have A5 := Lib.hid h1
        have V5 := Lib.hid (show ∀ x, v'.ownBlock = some x → w2.heap.size ≤ x from fun x hx => by
          rcases h3 x hx with h | h
          · exact HV.out x h
          · omega)
        have hq : ∀ j, j < w2.heap.size → ¬ refOwn g gB v j := fun j hj e => by
          rcases e with e | e | e
          · omega
          · omega
          · have := HV.out j e; omega
        have P5 := Lib.hid (HPB.out.kept h2 (hq _ hs2))
        have B5 := Lib.hid (OthersKept.below HB.out h2 (fun j hj => hq j (by omega)))
        have hsz5 : w2.heap.size ≤ w5.heap.size := Nat.le_trans hsz h2.size
        clear h1 h2 h3 hq PA c0 pl p0 p1 p2 p3 p4 p5
        go_wp2_with fail
        go_roundw
        case rel => exact ⟨k + 1, v', by go_num, by omega, A5, V5, P5, B5, hsz5⟩
        case measure => simp [intOf] <;> omega
      · obtain rfl : k = n := by omega
        have FO := fill_ok rows hw484.out k (by rw [HN.out]; exact Nat.le_refl _)
        have hfit := FO.1.fit
        have hel : (fillAr rows k).enc.length = 488 := by rw [Ar.enc_length _ (by have := FO.1.f; have := FO.1.l; omega), FO.2.2.2.1]
        have hin : ∀ p ∈ (fillAr rows k).L, p.1 < 256 ^ 2 ∧ p.2 < 256 ^ 2 := fun p hp => by
          have h1 := FO.1.inn p hp
          have h2 := FO.2.2.2.1
          simp only [Nat.reducePow]
          omega
        have hbare : Hid (R = (sealed (H ++ (fillAr rows k).enc), 0)) := by
          show _ = _
          rw [HX.out, ← HGH.out, HN.out]; rfl
        have BY := Lib.hid fun W (hW : RefAt W g gB 488 v (fillAr rows k)) => refBytes_begin g gB 488 v (fillAr rows k) W hfit hin hW
        obtain ⟨pl, p0, p1, p2, p3, p4, p5⟩ := HPB.out.cells
        clear FO hfit hin HX
        go_wp2_with fail
        refine (BY.out _ HA.out).mono ?_
        rintro e w6 ⟨s, rfl, hs, hb⟩
        have B6 := Lib.hid (below_then HB.out hb)
        have hse : s = ⟨(fillAr rows k).enc.toArray⟩ := bytes_ext (by rw [hs])
        subst hse
        clear hb hs BY HA HB HPB pl p0 p1 p2 p3 p4 p5
        generalize (fillAr rows k).enc = E at *
        have SE := Lib.hid fun W => refSeal_any (H ++ E) W (by rw [List.length_append]; have := HLN.out; omega)
        rw [← byt_app] at SE
        have hcat : ¬ 9223372036854775807 < H.length + E.length := by have := HLN.out; omega
        generalize sealed (H ++ E) = Z at *
        go_wp2_with fail
        refine (SE.out _).mono ?_
        rintro e w7 ⟨rfl, hb⟩
        have B7 := Lib.hid (below_then B6.out hb)
        clear hb
        go_wp2_with fail
        go_ret2
        exact ⟨by rw [hbare.out]; rfl, B7.out⟩

end Go.Proofs.Ytienlhnbmobinaa
