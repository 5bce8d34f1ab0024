/- Kept of our texts for this claim: SegAddsWalk -/
import Derived.Test.YtienlhnbmobinaaGreatRows
import Derived.Test.YtienlhnbmobinaaGreatAdBc
import Derived.Test.YtienlhnbmobinaaGreatAdBd
import Derived.Test.YtienlhnbmobinaaGreatAdBe
import Derived.Test.YtienlhnbmobinaaGreatAdAz
import Derived.Test.YtienlhnbmobinaaGreatAdBb
import Derived.Test.YtienlhnbmobinaaGreatAdAh
import Derived.Test.YtienlhnbmobinaaGreatAdAi
import Derived.Test.YtienlhnbmobinaaGreatAdAj
import Derived.Test.YtienlhnbmobinaaGreatAdAq
import Derived.Test.YtienlhnbmobinaaGreatAdAu
import Derived.Test.YtienlhnbmobinaaGreatAdAr
import Derived.Test.YtienlhnbmobinaaGreatAdAs
import Derived.Test.YtienlhnbmobinaaGreatAdAc
import Derived.Test.YtienlhnbmobinaaGreatAdAk
import Derived.Test.YtienlhnbmobinaaGreatAdAa
import Derived.Test.YtienlhnbmobinaaGreatAdAb
import Derived.WalkKit
import Derived.WalkLawsBesides
import Derived.WalkSpells
import Derived.LoopTactic
import Derived.WalkMore
import Derived.LoopN
import Derived.Laws.BitsAllLaws
import Derived.Laws.IdiomStrings
import Derived.BigQuiet
import Derived.Deep.QuietTactic
import Derived.Deep.DeepCutAuto
import Derived.Deep.RegionHeld3
import Derived.Deep.DrawnRows
import Derived.Lib.Hide
import Derived.Outline
import Derived.Deep.DeepMust
import Derived.Handy
import Derived.Test.YtienlhnbmobinaaGreatAdAd
import Derived.Test.YtienlhnbmobinaaGreatAdAl
import Derived.Test.YtienlhnbmobinaaGreatAdAy
import Derived.Test.YtienlhnbmobinaaGreatAdAw
import Derived.Test.YtienlhnbmobinaaGreatAdAm
import Derived.Test.YtienlhnbmobinaaGreatAdAn
import Derived.Test.YtienlhnbmobinaaGreatAdBa
import Derived.Deep.CutBlock
import Derived.Deep.LoopGhost
import Derived.Deep.OwnRows
section
/- SegAdds: its walk -/
namespace Go.Proofs.YtienlhnbmobinaaGreat
open Go.RowKit
set_option linter.unusedVariables false
set_option linter.unusedSimpArgs false
set_option maxHeartbeats 16000000 in
set_option maxRecDepth 100000 in
theorem segAddsLaw_any (p : Pg) (sv : Value) (L : List Ud) (v : Value) (own : Bool) (u : Ud) (raw : Bool) (l : List UInt8) (slot : Nat) (w : World) (hp : p.wf) (ht : TextsAt w sv p.rows) (hz : ∀ r ∈ p.rows, r.length ≤ 140737488351232) (hl : UdsAt w v L) (hlw : ∀ s ∈ L, s.wf) (hu : u.wf) (hq : u.y.size ≤ 140737488351232 ∧ u.k.size ≤ 140737488351232 ∧ u.v.size ≤ 140737488351232) (hlz : l.length ≤ 140737488351232) (hs : slot < 65536) :
    Calls Tryz.prog 3 #[pgV p sv, v, .bool own, udV u, .bool raw, .string ⟨l.toArray⟩, .int .u16 slot] w fun e w' => e = .returned (.bool true) ∧ Below w.heap.size w w' := by
  have AL := Lib.hid fun W => works22_any W
  have CE := Lib.hid fun (u : Ud) W (h : u.wf) => refUndoEncode_any u W h
  have HP := Lib.hid hp
  have HLW := Lib.hid hlw
  have HUW := Lib.hid hu
  have HL := Lib.hid hl
  have HT := Lib.hid ht
  obtain ⟨n, hnx⟩ : ∃ n, n = p.rows.length := ⟨_, rfl⟩
  obtain ⟨A, cp, hsv, h2, h3, h4, h5⟩ := ht
  rw [← hnx] at hsv h2
  subst hsv
  unfold maxLen at h3
  have HN := Lib.hid hnx
  obtain ⟨m, hmx⟩ : ∃ m, m = L.length := ⟨_, rfl⟩
  obtain ⟨LA, lc, hlv, l2, l3, l5⟩ := hl
  rw [← hmx] at hlv l2
  subst hlv
  unfold maxLen at l3
  have HM := Lib.hid hmx
  have HV := Lib.hid fun sv v W h => heavy22_any p sv v W h hz
  obtain ⟨hv, hhv⟩ : ∃ b, b = heavy22 p.rows := ⟨_, rfl⟩
  rw [← hhv] at HV
  have HHV := Lib.hid hhv
  have hsz : (⟨l.toArray⟩ : ByteArray).size = l.length := rfl
  clear h4 h5 l5 hnx hmx hlw hp hz hhv
  obtain ⟨kind, level, id, lsn, next, rows⟩ := p
  obtain ⟨u0, u1, u2, u3, u4, u5, u6, u7, u8, u9, u10, u11⟩ := u
  obtain ⟨q4, q5, q10⟩ := hq
  clear hu
  simp only at HT HN HV q4 q5 q10
  have P0 := Lib.hid ((PgBox.new w kind level id lsn next (.slice A n cp)).keep (.cells #[.int .u8 u0, .int .u64 u1, .int .u32 u2, .int .u16 u3, .string u4, .string u5, .bool u6, .int .u64 u7, .int .u32 u8, .int .u16 u9, .string u10, .int .i64 u11] 34))
  have V0 : Hid (UdBox ((w.alloc (.cells #[.int .u8 kind, .int .u8 level, .int .u32 id, .int .u64 lsn, .int .u32 next, .slice A n cp] 26)).alloc (.cells #[.int .u8 u0, .int .u64 u1, .int .u32 u2, .int .u16 u3, .string u4, .string u5, .bool u6, .int .u64 u7, .int .u32 u8, .int .u16 u9, .string u10, .int .i64 u11] 34)) (w.alloc (.cells #[.int .u8 kind, .int .u8 level, .int .u32 id, .int .u64 lsn, .int .u32 next, .slice A n cp] 26)).heap.size ⟨u0, u1, u2, u3, u4, u5, u6, u7, u8, u9, u10, u11⟩) := heap_alloc_new (w.alloc (.cells #[.int .u8 kind, .int .u8 level, .int .u32 id, .int .u64 lsn, .int .u32 next, .slice A n cp] 26)) _
  have hz1 : (w.alloc (.cells #[.int .u8 kind, .int .u8 level, .int .u32 id, .int .u64 lsn, .int .u32 next, .slice A n cp] 26)).heap.size = w.heap.size + 1 := by simp
  rw [hz1] at V0
  have B0 := Lib.hid (below_then (alloc_below w (.cells #[.int .u8 kind, .int .u8 level, .int .u32 id, .int .u64 lsn, .int .u32 next, .slice A n cp] 26)) (alloc_below (w.alloc (.cells #[.int .u8 kind, .int .u8 level, .int .u32 id, .int .u64 lsn, .int .u32 next, .slice A n cp] 26)) (.cells #[.int .u8 u0, .int .u64 u1, .int .u32 u2, .int .u16 u3, .string u4, .string u5, .bool u6, .int .u64 u7, .int .u32 u8, .int .u16 u9, .string u10, .int .i64 u11] 34)))
  have T0 := Lib.hid (HT.out.below B0.out)
  have L0 := Lib.hid (HL.out.below B0.out)
  unfold pgV udV
  simp only
  clear hz1 HT
  obtain ⟨i0, hif, hz0, hz1, hz2⟩ := info_parts Tryz.infoStrM
  have HI := Lib.hid hif
  have HI0 := Lib.hid hz0
  have HI1 := Lib.hid hz1
  have HI2 := Lib.hid hz2
  clear hif hz0 hz1 hz2
  go_enter Tryz.func3, Tryz.ntmps3
  go_upto_region 1 with fail
  generalize (w.alloc (.cells #[.int .u8 kind, .int .u8 level, .int .u32 id, .int .u64 lsn, .int .u32 next, .slice A n cp] 26)).alloc (.cells #[.int .u8 u0, .int .u64 u1, .int .u32 u2, .int .u16 u3, .string u4, .string u5, .bool u6, .int .u64 u7, .int .u32 u8, .int .u16 u9, .string u10, .int .i64 u11] 34) = w0 at *
  obtain ⟨x0, x1, x2, x3, x4, x5, x6⟩ := P0.out.cells
  have PJ := Lib.hid (PgsIn.one w0 ⟨kind, level, id, lsn, next, rows⟩ (.slice A n cp) T0.out)
  simp only at PJ
  have hb2 := Lib.hid (alloc_below w0 (.cells #[.int .u8 kind, .int .u8 level, .int .u32 id, .int .u64 lsn, .int .u32 next, .slice A n cp] 26))
  go_wp2_with fail
  refine (HV.out _ _ _ PJ.out).mono ?_
  rintro e w1 ⟨rfl, hb⟩
  have B01 := Lib.hid (below_then hb2.out hb)
  have B1 := Lib.hid (below_then B0.out B01.out)
  have P1 := Lib.hid (P0.out.below B01.out)
  have V1 := Lib.hid (V0.out.below B01.out)
  have T1 := Lib.hid (T0.out.below B01.out)
  clear hb hb2 B0 B01 P0 V0 T0 L0 PJ HV x0 x1 x2 x3 x4 x5 x6
  obtain ⟨y0, y1, y2, y3, y4, y5, y6, y7, y8, y9, y10, y11, y12⟩ := V1.out.cells
  simp only at y1 y2 y3 y4 y5 y6 y7 y8 y9 y10 y11 y12
  cases hv with
  | true =>
    go_wp2_with fail
    refine (AL.out _).mono ?_
    rintro e wa ⟨rfl, hba⟩
    have Ba := Lib.hid (below_then B1.out hba)
    clear hba
    go_wp2_with fail
    go_ret
    exact ⟨rfl, Ba.out⟩
  | false =>
  by_cases hm40 : 10 < m
  · have hmi : decide (10 < m) = true := decide_eq_true hm40
    have hmi2 : (10 : Int) < (m : Int) := by omega
    go_wp2_with fail
    refine (AL.out _).mono ?_
    rintro e wa ⟨rfl, hba⟩
    have Ba := Lib.hid (below_then B1.out hba)
    clear hba
    go_wp2_with fail
    go_ret
    exact ⟨rfl, Ba.out⟩
  have hmi : decide (10 < m) = false := decide_eq_false hm40
  have hmi2 : ¬ (10 : Int) < (m : Int) := by omega
  have hb1 : l.length + u4.size + u5.size + u10.size ≤ 4 * 140737488351232 := by omega
  by_cases hl5 : 1024 < l.length + u4.size + u5.size + u10.size
  · have hmj : decide ((1024 : Int) < (l.length : Int) + (u4.size : Int) + (u5.size : Int) + (u10.size : Int)) = true := decide_eq_true (by omega)
    have hmj2 : (1024 : Int) < (l.length : Int) + (u4.size : Int) + (u5.size : Int) + (u10.size : Int) := by omega
    go_wp2_with fail
    refine (AL.out _).mono ?_
    rintro e wa ⟨rfl, hba⟩
    have Ba := Lib.hid (below_then B1.out hba)
    clear hba
    go_wp2_with fail
    go_ret
    exact ⟨rfl, Ba.out⟩
  have hmj : decide ((1024 : Int) < (l.length : Int) + (u4.size : Int) + (u5.size : Int) + (u10.size : Int)) = false := decide_eq_false (by omega)
  have hmj2 : ¬ (1024 : Int) < (l.length : Int) + (u4.size : Int) + (u5.size : Int) + (u10.size : Int) := by omega
  have hh := heavy22_no HHV.out.symm
  have HLL : Hid (l.length ≤ 1000000) := Lib.hid (show l.length ≤ 1000000 by omega)
  clear hl5 q4 q5 q10 HHV hlz hb1
  have hm10 : m ≤ 10 := by omega
  clear hm40
  obtain ⟨x0, x1, x2, x3, x4, x5, x6⟩ := P1.out.cells
  go_upto_region 4 with fail
  clear x0 x1 x2 x3 x4 x5 x6 y0 y1 y2 y3 y4 y5 y6 y7 y8 y9 y10 y11 y12 hmi hmi2 hmj hmj2
  have X2 := Lib.hid (PgBox.new w1 kind level id lsn next (.slice A n cp))
  have hb := alloc_below w1 (.cells #[.int .u8 kind, .int .u8 level, .int .u32 id, .int .u64 lsn, .int .u32 next, .slice A n cp] 26)
  obtain ⟨gx, hgx⟩ : ∃ z, z = w1.heap.size := ⟨_, rfl⟩
  have hgw : w.heap.size ≤ gx := by have := B1.out.size; omega
  rw [← hgx] at X2 ⊢
  generalize w1.alloc (.cells #[.int .u8 kind, .int .u8 level, .int .u32 id, .int .u64 lsn, .int .u32 next, .slice A n cp] 26) = w2 at *
  have B2 := Lib.hid (below_then B1.out hb)
  have V2 := Lib.hid (V1.out.below hb)
  have T2 := Lib.hid (T1.out.below hb)
  have hvx : w.heap.size + 1 < gx := by have := V1.out.lt; omega
  clear B1 V1 T1 P1 hb hgx
  go_upto_if 58 with fail
  go_cut [16] (fun _ w' => ∃ (P' : Pg) (A' : Option Addr) (c' : Nat), Hid (PgBox w' gx P'.kind P'.level P'.id P'.lsn P'.next (.slice A' P'.rows.length c')) ∧ Hid (TextsAt w' (.slice A' P'.rows.length c') P'.rows) ∧ Hid (P'.wf ∧ weightB P'.rows ≤ 5000) ∧ Hid (Below w.heap.size w w') ∧ Hid (UdBox w' (w.heap.size + 1) ⟨u0, u1, u2, u3, u4, u5, u6, u7, u8, u9, u10, u11⟩))
  case first =>
    cases own with
    | false =>
      go_wp2_with fail
      go_meet
      exact ⟨⟨kind, level, id, lsn, next, rows⟩, A, cp, Lib.hid (by simp only; rw [← HN.out]; exact X2.out), Lib.hid (by simp only; rw [← HN.out]; exact T2.out), Lib.hid ⟨HP.out, by have := hh.2; simp only; omega⟩, B2, V2⟩
    | true =>
      go_upto_region 6 with (refine wpList_store_pg rfl (.tmp 15) (.tmp 59) rfl X2.out 3 0 9 0 0 none 0 0 (by rfl) (by rfl) ?_; intro wS hP hK; have PS := Lib.hid hP; have KS := Lib.hid hK; clear hP hK)
      have B3 := Lib.hid (OthersKept.below B2.out KS.out (fun k hk e => by omega))
      have V3 := Lib.hid (V2.out.kept KS.out (by omega))
      clear KS X2 B2 V2 T2 AL HP HN HUW hh
      obtain ⟨gB, hgB⟩ : ∃ z, z = wS.heap.size := ⟨_, rfl⟩
      have hgxB : gx < gB := by have := PS.out.lt; omega
      have hgBw : w.heap.size ≤ gB := by omega
      go_wp2_with fail
      go_loopw [16] (fun s16 wr => ∃ (i : Nat) (R : List (List UInt8)) (A : Option Addr) (c : Nat), s16 = .int .i64 i ∧ i ≤ m ∧ Hid (weightB R ≤ i * 500) ∧ Hid (PgBox wr gx 3 0 9 0 0 (.slice A R.length c)) ∧ Hid (wr.ownsRow gB 9 1 (.slice A R.length c) R.length (strs R)) ∧ Hid (Below w.heap.size w wr) ∧ Hid (UdBox wr (w.heap.size + 1) ⟨u0, u1, u2, u3, u4, u5, u6, u7, u8, u9, u10, u11⟩) ∧ Hid (gB ≤ wr.heap.size)) (fun v _ => m - (intOf v).toNat)
      case atStart => exact ⟨0, [], none, 0, rfl, Nat.zero_le _, Lib.hid (by simp [weightB]), PS, Lib.hid (World.ownsRow_nil _ _ _ _), B3, V3, Lib.hid (by show gB ≤ _; omega)⟩
      case round =>
        obtain ⟨i, R, A, c, rfl, hi, HW, PQ, OQ, BQ, VQ, SQ⟩ := hrel
        clear PS B3 V3
        by_cases him : i < m
        case neg =>
          have hci : ¬ (i : Int) < (m : Int) := by omega
          have TQ := Lib.hid (texts_own OQ.out).1
          go_wp2_with fail
          go_meet
          exact ⟨⟨3, 0, 9, 0, 0, R⟩, A, c, PQ, TQ, Lib.hid ⟨⟨(show 3 < 256 by omega), (show 0 < 256 by omega), (show 9 < 256 ^ 4 by omega), (show 0 < 256 ^ 8 by omega), (show 0 < 256 ^ 4 by omega)⟩, by have := HW.out; simp only; omega⟩, BQ, VQ⟩
        have hci : (i : Int) < (m : Int) := by omega
        have hi0 : (0 : Int) ≤ (i : Int) := by omega
        have hil : i < L.length := by rw [← HM.out]; exact him
        obtain ⟨b7, o7, hLA, hb7, hc7⟩ := (HL.out.below BQ.out).row12 HM.out (by omega)
        have hc8 := hc7 i hil
        have CX := Lib.hid fun W => CE.out L[i] W (HLW.out _ (List.getElem_mem hil))
        subst hLA
        obtain ⟨en, hen⟩ : ∃ z, z = Ud.out L[i] := ⟨_, rfl⟩
        have hel : en.length ≤ 400 := by rw [hen]; exact Ud.out_len _
        rw [← hen] at CX
        clear hen hc7
        generalize L[i] = s at *
        obtain ⟨s0, s1, s2, s3, s4, s5, s6, s7, s8, s9, s10, s11⟩ := s
        unfold udV at CX
        simp only at hc8 CX
        obtain ⟨z0, z1, z2, z3, z4, z5, z6, z7, z8, z9, z10, z11⟩ := hc8
        go_wp2_with fail
        refine (CX.out _).mono ?_
        rintro e w3 ⟨rfl, hb⟩
        clear z0 z1 z2 z3 z4 z5 z6 z7 z8 z9 z10 z11 CX
        have BQ := Lib.hid (below_then BQ.out hb)
        have PQ := Lib.hid (PQ.out.below hb)
        have OQ := Lib.hid (own_below OQ.out hb)
        have VQ := Lib.hid (VQ.out.below hb)
        have SQ := Lib.hid (Nat.le_trans SQ.out hb.size)
        clear hb
        have CR := Lib.hid fun sv W h => refRoom06_any ⟨3, 0, 9, 0, 0, R⟩ sv W h (show weightB R ≤ 1000000 by have := HW.out; omega)
        rw [roomV_eq] at CR
        unfold pgV at CR
        simp only at CR
        have hrm : roomB R ≤ 480 := by unfold roomB; split <;> omega
        obtain ⟨rm, hrmx⟩ : ∃ z, z = roomB R := ⟨_, rfl⟩
        rw [← hrmx] at CR hrm
        clear hrmx
        obtain ⟨nq, hnq⟩ : ∃ z, z = R.length := ⟨_, rfl⟩
        have HNQ := Lib.hid hnq
        rw [← hnq] at PQ
        have TQ := Lib.hid (texts_own OQ.out).1
        rw [← hnq] at TQ
        have hnqs : nq ≤ 5000 := by have := HW.out; have := weightB_length R; omega
        clear hnq
        have hes : (⟨en.toArray⟩ : ByteArray).size = en.length := rfl
        obtain ⟨ie, hie⟩ : ∃ b, en.isEmpty = b := ⟨_, rfl⟩
        cases ie with
        | true =>
          have hen : en = [] := by simpa using hie
          subst hen
          clear hie
          go_wp2_with fail
          exact ⟨⟨i + 1, R, A, c, by go_num, by omega, Lib.hid (by have := HW.out; show _ ≤ _; omega), Lib.hid (by rw [← HNQ.out]; exact PQ.out), OQ, BQ, VQ, SQ⟩, by simp [intOf]; omega⟩
        | false =>
          obtain ⟨x0, x1, x2, x3, x4, x5, x6⟩ := PQ.out.cells
          go_wp2_with fail
          refine (CR.out _ _ TQ.out).mono ?_
          rintro e w4 ⟨rfl, hb⟩
          clear x0 x1 x2 x3 x4 x5 x6 CR
          have BQ := Lib.hid (below_then BQ.out hb)
          have PQ := Lib.hid (PQ.out.below hb)
          have OQ := Lib.hid (own_below OQ.out hb)
          have VQ := Lib.hid (VQ.out.below hb)
          have SQ := Lib.hid (Nat.le_trans SQ.out hb.size)
          clear hb TQ
          by_cases hle : (en.length : Int) ≤ rm
          case neg =>
            have hld : decide ((en.length : Int) ≤ rm) = false := decide_eq_false hle
            go_wp2_with fail
            exact ⟨⟨i + 1, R, A, c, by go_num, by omega, Lib.hid (by have := HW.out; show _ ≤ _; omega), Lib.hid (by rw [← HNQ.out]; exact PQ.out), OQ, BQ, VQ, SQ⟩, by simp [intOf]; omega⟩
          have hld : decide ((en.length : Int) ≤ rm) = true := decide_eq_true hle
          obtain ⟨x0, x1, x2, x3, x4, x5, x6⟩ := PQ.out.cells
          have OX := Lib.hid OQ.out
          rw [← HNQ.out] at OX
          have BA := Lib.hid (below_then BQ.out (alloc_below w4 (.cells #[.string ⟨en.toArray⟩] 9)))
          have hs4 : w4.heap.size ≤ (w4.alloc (.cells #[.string ⟨en.toArray⟩] 9)).heap.size := by simp
          go_wp2_with (at_builtin; refine wpList_append_own _ rfl _ _ 24 rfl gB 9 i0 (.string ⟨#[]⟩) 1 16 Tryz.underlying24 HI.out HI0.out HI1.out HI2.out rfl (by decide) _ _ _ (by rfl) (OX.out.alloc _) ⟨w4.heap.size, 0, none⟩ 1 1 [.string ⟨en.toArray⟩] (by rfl) rfl (one_new _ _ _) (one_str _) (by unfold maxLen; omega) (by omega) (by have := SQ.out; simp; omega) ?_; intro v6 w6 hown6 hgrow6 hnil6; clear hnil6; obtain ⟨b8, c8, hv8, _, _, _⟩ := own_form hown6; subst hv8; have HO6 := Lib.hid hown6; have B6 := Lib.hid (BA.out.grown hgrow6 (by have := BQ.out.size; omega) (fun j hj => by have := (OX.out.lt j hj).1; omega)); have P6 := Lib.hid ((PQ.out.keep _).grown hgrow6 (fun e => by have := (OX.out.lt gx e.symm).1; omega)); have V6 : Hid (UdBox w6 (w.heap.size + 1) ⟨u0, u1, u2, u3, u4, u5, u6, u7, u8, u9, u10, u11⟩) := Lib.hid ((VQ.out.keep _).grown hgrow6 (fun e => by have := (OX.out.lt _ e.symm).1; omega)); have S6 : Hid (gB ≤ w6.heap.size) := Lib.hid (by have := SQ.out; have := hgrow6.size; show gB ≤ _; omega); clear hgrow6 hown6; obtain ⟨z0, z1, z2, z3, z4, z5, z6⟩ := P6.out.cells; obtain ⟨f0, f1, f2, f3, f4, f5⟩ := P6.out.fr)
          have hk := Lib.hid (one_kept w6 gx 5 (.slice b8 (nq + 1) c8))
          have P8 := Lib.hid (P6.out.set5 (.slice b8 (nq + 1) c8))
          have O8 := Lib.hid (OthersKept.owns hk.out HO6.out (fun q hq e => by have := (HO6.out.lt q hq).1; omega))
          have hst : strs (R ++ [en]) = strs R ++ [Value.string ⟨en.toArray⟩] := by simp [strs]
          exact ⟨⟨i + 1, R ++ [en], b8, c8, by go_num, by omega, Lib.hid (by have := HW.out; rw [weightB_append, weightB_cons, weightB_nil]; omega), Lib.hid (by rw [List.length_append, ← HNQ.out]; exact P8.out), Lib.hid (by rw [List.length_append, ← HNQ.out, hst]; exact O8.out), Lib.hid (OthersKept.below B6.out hk.out (fun k hk e => by omega)), Lib.hid (V6.out.kept hk.out (by omega)), Lib.hid (Nat.le_trans S6.out hk.out.size)⟩, by simp [intOf]; omega⟩
  case rest =>
  obtain ⟨⟨pa, pb, pc, pd, pe, rowsP⟩, pA, pcp, XX, TT, FF, BB, VV⟩ := hcut
  generalize wc = w3 at *
  simp only at XX TT FF
  obtain ⟨pn, hpn⟩ : ∃ n, n = rowsP.length := ⟨_, rfl⟩
  rw [← hpn] at XX TT
  have HPN := Lib.hid hpn
  clear hpn X2 T2 V2 B2 HP HN hh HLW HL HM HI HI0 HI1 HI2
  have P3 := XX
  have T3 := TT
  have B3 := BB
  have V3 := VV
  clear XX TT BB VV
  obtain ⟨le, hle⟩ : ∃ z, z = (if raw then l else Ud.out ⟨u0, u1, u2, u3, u4, u5, u6, u7, u8, u9, u10, u11⟩) := ⟨_, rfl⟩
  have HLE := Lib.hid hle
  clear hle
  go_upto_if 88 with fail
  go_cut [18] (fun s18 w' => s18 = .string ⟨le.toArray⟩ ∧ Hid (Below w3.heap.size w3 w'))
  case first =>
    have CX := Lib.hid fun W => CE.out ⟨u0, u1, u2, u3, u4, u5, u6, u7, u8, u9, u10, u11⟩ W HUW.out
    unfold udV at CX
    simp only at CX
    cases raw with
    | true =>
      go_wp2_with fail
      go_meet
      exact ⟨by rw [HLE.out]; rfl, Lib.hid (Below.refl _ _)⟩
    | false =>

      obtain ⟨y0, y1, y2, y3, y4, y5, y6, y7, y8, y9, y10, y11, y12⟩ := V3.out.cells
      simp only at y1 y2 y3 y4 y5 y6 y7 y8 y9 y10 y11 y12
      go_wp2_with fail
      refine (CX.out _).mono ?_
      rintro e w4 ⟨rfl, hb⟩
      have HB4 := Lib.hid hb
      clear y0 y1 y2 y3 y4 y5 y6 y7 y8 y9 y10 y11 y12 hb CX
      go_wp2_with fail
      go_meet
      exact ⟨by rw [HLE.out]; rfl, HB4⟩
  case rest =>
  obtain ⟨rfl, hbc⟩ := hcut
  generalize wc = w4 at *
  have hb := hbc.out
  clear hbc CE
  have B4 := Lib.hid (below_then B3.out hb)
  have P4 := Lib.hid (P3.out.below hb)
  have T4 := Lib.hid (T3.out.below hb)
  have V4 := Lib.hid (V3.out.below hb)
  clear hb B3 P3 T3 V3
  clear V4
  have hlel : le.length ≤ 1000000 := by
    rw [HLE.out]
    cases raw with
    | true => exact HLL.out
    | false => exact Nat.le_trans (Ud.out_len _) (by omega)
  have hq6 : rowsP.length ≤ 1000000 := by have := weightB_length rowsP; have h9 : weightB rowsP ≤ 5000 := FF.out.2; omega
  have hw6 : weightB rowsP ≤ 1000000 := by have h9 : weightB rowsP ≤ 5000 := FF.out.2; omega
  have CC := Lib.hid fun W h => copied22_any ⟨pa, pb, pc, pd, pe, rowsP⟩ (.slice pA pn pcp) W h hq6
  have CA := Lib.hid fun sv W (h : TextsAt W sv rowsP) => segAdd_any ⟨pa, pb, pc, pd, pe, rowsP⟩ sv le W FF.out.1 h hw6 hlel
  have RA := Lib.hid fun W (h : TextsAt W (.slice pA pn pcp) rowsP) => refSegAdd_any ⟨pa, pb, pc, pd, pe, rowsP⟩ (.slice pA pn pcp) le W FF.out.1 h hw6 hlel
  have CG := Lib.hid fun sv W (h : TextsAt W sv rowsP) => segGet_any ⟨pa, pb, pc, pd, pe, rowsP⟩ sv slot W FF.out.1 h hw6 hs
  have RG := Lib.hid fun W (h : TextsAt W (.slice pA pn pcp) rowsP) => refSegGet_any ⟨pa, pb, pc, pd, pe, rowsP⟩ (.slice pA pn pcp) slot W FF.out.1 h hw6 hs
  obtain ⟨⟨⟨r0, r1⟩, ⟨a0, a1, a2, a3, a4, a5, a6, a7, a8⟩, e1⟩, haa⟩ : ∃ z, z = sAddB ⟨pa, pb, pc, pd, pe, rowsP⟩ le := ⟨_, rfl⟩
  obtain ⟨⟨⟨d0, d1, d2, d3, d4, d5, d6, d7, d8, d9, d10, d11⟩, e2⟩, hdd⟩ : ∃ z, z = sGetB ⟨pa, pb, pc, pd, pe, rowsP⟩ slot := ⟨_, rfl⟩
  rw [← haa] at CA RA
  rw [← hdd] at CG RG
  unfold pgV at CC CA RA CG RG
  unfold odV rlV at CA RA
  unfold udV at CG RG
  (try simp only at CC)
  (try simp only at CA)
  (try simp only at RA)
  (try simp only at CG)
  (try simp only at RG)
  clear haa hdd hq6 hw6 hlel HLE HLL FF HUW
  obtain ⟨x0, x1, x2, x3, x4, x5, x6⟩ := P4.out.cells
  go_wp2_with fail
  clear x0 x1 x2 x3 x4 x5 x6
  refine (CC.out _ T4.out).mono ?_
  rintro e w5 ⟨sv5, rfl, GG, hb⟩
  (try simp only at GG)
  have D5 := Lib.hid GG
  obtain ⟨DA5, dcp5, hdv5, _, _, _, _⟩ := GG
  rw [← HPN.out] at hdv5
  subst hdv5
  have B5 := Lib.hid (below_then B4.out hb)
  have P5 := Lib.hid (P4.out.below hb)
  have T5 := Lib.hid (T4.out.below hb)
  clear hb B4 P4 T4
  obtain ⟨x0, x1, x2, x3, x4, x5, x6⟩ := P5.out.cells
  go_wp2_with fail
  clear x0 x1 x2 x3 x4 x5 x6
  refine (CA.out _ _ D5.out).mono ?_
  rintro e w6 ⟨rfl, hb⟩
  have B6 := Lib.hid (below_then B5.out hb)
  have P6 := Lib.hid (P5.out.below hb)
  have T6 := Lib.hid (T5.out.below hb)
  clear hb B5 P5 T5
  obtain ⟨x0, x1, x2, x3, x4, x5, x6⟩ := P6.out.cells
  go_upto_region 16 with fail
  clear x0 x1 x2 x3 x4 x5 x6
  have BN := Lib.hid (below_then (alloc_below w6 (.cells #[.int .u32 r0, .int .u16 r1] 30)) (alloc_below (w6.alloc (.cells #[.int .u32 r0, .int .u16 r1] 30)) (.cells #[.int .u8 a0, .int .u32 a1, .int .i64 a2, .int .i64 a3, .string ⟨a4.toArray⟩, .slice none 0 0, .int .u8 a6, .int .u8 a7, .int .u32 a8] 40)))
  have KA7 := Lib.hid ((RlBox.new w6 r0 r1).keep (.cells #[.int .u8 a0, .int .u32 a1, .int .i64 a2, .int .i64 a3, .string ⟨a4.toArray⟩, .slice none 0 0, .int .u8 a6, .int .u8 a7, .int .u32 a8] 40))
  have hz1 : (w6.alloc (.cells #[.int .u32 r0, .int .u16 r1] 30)).heap.size = w6.heap.size + 1 := by simp
  have OA7 := Lib.hid (OAt.new (w6.alloc (.cells #[.int .u32 r0, .int .u16 r1] 30)) ⟨a0, a1, a2, a3, a4, a5, a6, a7, a8⟩ (.slice none 0 0))
  rw [hz1] at OA7
  (try simp only at OA7)
  generalize (w6.alloc (.cells #[.int .u32 r0, .int .u16 r1] 30)).alloc (.cells #[.int .u8 a0, .int .u32 a1, .int .i64 a2, .int .i64 a3, .string ⟨a4.toArray⟩, .slice none 0 0, .int .u8 a6, .int .u8 a7, .int .u32 a8] 40) = w7 at *
  have hb := BN.out
  clear BN hz1
  have B7 := Lib.hid (below_then B6.out hb)
  have P7 := Lib.hid (P6.out.below hb)
  have T7 := Lib.hid (T6.out.below hb)
  clear hb B6 P6 T6
  obtain ⟨x0, x1, x2, x3, x4, x5, x6⟩ := P7.out.cells
  go_wp2_with fail
  clear x0 x1 x2 x3 x4 x5 x6
  refine (RA.out _ T7.out).mono ?_
  rintro e w8 ⟨rfl, hb⟩
  have B8 := Lib.hid (below_then B7.out hb)
  have P8 := Lib.hid (P7.out.below hb)
  have T8 := Lib.hid (T7.out.below hb)
  have KA8 := Lib.hid (KA7.out.below hb)
  have OA8 := Lib.hid (OA7.out.below hb)
  clear hb B7 P7 T7 KA7 OA7
  obtain ⟨x0, x1, x2, x3, x4, x5, x6⟩ := P8.out.cells
  go_upto_region 17 with fail
  clear x0 x1 x2 x3 x4 x5 x6
  have BN := Lib.hid (below_then (alloc_below w8 (.cells #[.int .u32 r0, .int .u16 r1] 30)) (alloc_below (w8.alloc (.cells #[.int .u32 r0, .int .u16 r1] 30)) (.cells #[.int .u8 a0, .int .u32 a1, .int .i64 a2, .int .i64 a3, .string ⟨a4.toArray⟩, .slice none 0 0, .int .u8 a6, .int .u8 a7, .int .u32 a8] 40)))
  have KB9 := Lib.hid ((RlBox.new w8 r0 r1).keep (.cells #[.int .u8 a0, .int .u32 a1, .int .i64 a2, .int .i64 a3, .string ⟨a4.toArray⟩, .slice none 0 0, .int .u8 a6, .int .u8 a7, .int .u32 a8] 40))
  have hz1 : (w8.alloc (.cells #[.int .u32 r0, .int .u16 r1] 30)).heap.size = w8.heap.size + 1 := by simp
  have OB9 := Lib.hid (OAt.new (w8.alloc (.cells #[.int .u32 r0, .int .u16 r1] 30)) ⟨a0, a1, a2, a3, a4, a5, a6, a7, a8⟩ (.slice none 0 0))
  rw [hz1] at OB9
  (try simp only at OB9)
  generalize (w8.alloc (.cells #[.int .u32 r0, .int .u16 r1] 30)).alloc (.cells #[.int .u8 a0, .int .u32 a1, .int .i64 a2, .int .i64 a3, .string ⟨a4.toArray⟩, .slice none 0 0, .int .u8 a6, .int .u8 a7, .int .u32 a8] 40) = w9 at *
  have hb := BN.out
  clear BN hz1
  have B9 := Lib.hid (below_then B8.out hb)
  have P9 := Lib.hid (P8.out.below hb)
  have T9 := Lib.hid (T8.out.below hb)
  have KA9 := Lib.hid (KA8.out.below hb)
  have OA9 := Lib.hid (OA8.out.below hb)
  clear hb B8 P8 T8 KA8 OA8
  clear CA RA
  obtain ⟨x0, x1, x2, x3, x4, x5, x6⟩ := P9.out.cells
  go_wp2_with fail
  clear x0 x1 x2 x3 x4 x5 x6
  refine (CC.out _ T9.out).mono ?_
  rintro e w10 ⟨sv10, rfl, GG, hb⟩
  (try simp only at GG)
  have D10 := Lib.hid GG
  obtain ⟨DA10, dcp10, hdv10, _, _, _, _⟩ := GG
  rw [← HPN.out] at hdv10
  subst hdv10
  have B10 := Lib.hid (below_then B9.out hb)
  have P10 := Lib.hid (P9.out.below hb)
  have T10 := Lib.hid (T9.out.below hb)
  have KA10 := Lib.hid (KA9.out.below hb)
  have OA10 := Lib.hid (OA9.out.below hb)
  have KB10 := Lib.hid (KB9.out.below hb)
  have OB10 := Lib.hid (OB9.out.below hb)
  clear hb B9 P9 T9 KA9 OA9 KB9 OB9
  obtain ⟨x0, x1, x2, x3, x4, x5, x6⟩ := P10.out.cells
  go_wp2_with fail
  clear x0 x1 x2 x3 x4 x5 x6
  refine (CG.out _ _ D10.out).mono ?_
  rintro e w11 ⟨rfl, hb⟩
  have B11 := Lib.hid (below_then B10.out hb)
  have P11 := Lib.hid (P10.out.below hb)
  have T11 := Lib.hid (T10.out.below hb)
  have KA11 := Lib.hid (KA10.out.below hb)
  have OA11 := Lib.hid (OA10.out.below hb)
  have KB11 := Lib.hid (KB10.out.below hb)
  have OB11 := Lib.hid (OB10.out.below hb)
  clear hb B10 P10 T10 KA10 OA10 KB10 OB10
  obtain ⟨x0, x1, x2, x3, x4, x5, x6⟩ := P11.out.cells
  go_upto_region 18 with fail
  clear x0 x1 x2 x3 x4 x5 x6
  have BN := Lib.hid (alloc_below w11 (.cells #[.int .u8 d0, .int .u64 d1, .int .u32 d2, .int .u16 d3, .string d4, .string d5, .bool d6, .int .u64 d7, .int .u32 d8, .int .u16 d9, .string d10, .int .i64 d11] 34))
  have VA12 := Lib.hid (UdBox.new w11 ⟨d0, d1, d2, d3, d4, d5, d6, d7, d8, d9, d10, d11⟩)
  (try simp only at VA12)
  generalize w11.alloc (.cells #[.int .u8 d0, .int .u64 d1, .int .u32 d2, .int .u16 d3, .string d4, .string d5, .bool d6, .int .u64 d7, .int .u32 d8, .int .u16 d9, .string d10, .int .i64 d11] 34) = w12 at *
  have hb := BN.out
  clear BN
  have B12 := Lib.hid (below_then B11.out hb)
  have P12 := Lib.hid (P11.out.below hb)
  have T12 := Lib.hid (T11.out.below hb)
  have KA12 := Lib.hid (KA11.out.below hb)
  have OA12 := Lib.hid (OA11.out.below hb)
  have KB12 := Lib.hid (KB11.out.below hb)
  have OB12 := Lib.hid (OB11.out.below hb)
  clear hb B11 P11 T11 KA11 OA11 KB11 OB11
  obtain ⟨x0, x1, x2, x3, x4, x5, x6⟩ := P12.out.cells
  go_wp2_with fail
  clear x0 x1 x2 x3 x4 x5 x6
  refine (RG.out _ T12.out).mono ?_
  rintro e w13 ⟨rfl, hb⟩
  have B13 := Lib.hid (below_then B12.out hb)
  have P13 := Lib.hid (P12.out.below hb)
  have T13 := Lib.hid (T12.out.below hb)
  have KA13 := Lib.hid (KA12.out.below hb)
  have OA13 := Lib.hid (OA12.out.below hb)
  have KB13 := Lib.hid (KB12.out.below hb)
  have OB13 := Lib.hid (OB12.out.below hb)
  have VA13 := Lib.hid (VA12.out.below hb)
  clear hb B12 P12 T12 KA12 OA12 KB12 OB12 VA12
  obtain ⟨x0, x1, x2, x3, x4, x5, x6⟩ := P13.out.cells
  go_upto_region 19 with fail
  clear x0 x1 x2 x3 x4 x5 x6
  have BN := Lib.hid (alloc_below w13 (.cells #[.int .u8 d0, .int .u64 d1, .int .u32 d2, .int .u16 d3, .string d4, .string d5, .bool d6, .int .u64 d7, .int .u32 d8, .int .u16 d9, .string d10, .int .i64 d11] 34))
  have VB14 := Lib.hid (UdBox.new w13 ⟨d0, d1, d2, d3, d4, d5, d6, d7, d8, d9, d10, d11⟩)
  (try simp only at VB14)
  generalize w13.alloc (.cells #[.int .u8 d0, .int .u64 d1, .int .u32 d2, .int .u16 d3, .string d4, .string d5, .bool d6, .int .u64 d7, .int .u32 d8, .int .u16 d9, .string d10, .int .i64 d11] 34) = w14 at *
  have hb := BN.out
  clear BN
  have B14 := Lib.hid (below_then B13.out hb)
  have P14 := Lib.hid (P13.out.below hb)
  have T14 := Lib.hid (T13.out.below hb)
  have KA14 := Lib.hid (KA13.out.below hb)
  have OA14 := Lib.hid (OA13.out.below hb)
  have KB14 := Lib.hid (KB13.out.below hb)
  have OB14 := Lib.hid (OB13.out.below hb)
  have VA14 := Lib.hid (VA13.out.below hb)
  clear hb B13 P13 T13 KA13 OA13 KB13 OB13 VA13
  clear CG RG CC
  clear P14
  clear T14
  have SO := Lib.hid fun W => sameOp_any ⟨a0, a1, a2, a3, a4, a5, a6, a7, a8⟩ W
  (try simp only at SO)
  have t1 : (e1 == e1) = true := by simp
  have t2 : (e2 == e2) = true := by simp
  have h1 : ∀ W, (binOp .eql 30 (.agg #[.int .u32 r0, .int .u16 r1]) (.agg #[.int .u32 r0, .int .u16 r1])).run Tryz.prog W = .ok (.bool true) W := fun W => eqRlSelf r0 r1 W
  have h2 : ∀ W, (binOp .eql 34 (.agg #[.int .u8 d0, .int .u64 d1, .int .u32 d2, .int .u16 d3, .string d4, .string d5, .bool d6, .int .u64 d7, .int .u32 d8, .int .u16 d9, .string d10, .int .i64 d11]) (.agg #[.int .u8 d0, .int .u64 d1, .int .u32 d2, .int .u16 d3, .string d4, .string d5, .bool d6, .int .u64 d7, .int .u32 d8, .int .u16 d9, .string d10, .int .i64 d11])).run Tryz.prog W = .ok (.bool true) W := fun W => eqUdSelf ⟨d0, d1, d2, d3, d4, d5, d6, d7, d8, d9, d10, d11⟩ W
  obtain ⟨x0, x1, x2⟩ := KA14.out.cells
  obtain ⟨y0, y1, y2⟩ := KB14.out.cells
  obtain ⟨z0, z1, z2, z3, z4, z5, z6, z7, z8⟩ := OA14.out.cells
  simp only at z0 z1 z2 z3 z4 z5 z6 z7 z8
  have z9 := blk_lt OA14.out
  obtain ⟨t0, t1, t2, t3, t4, t5, t6, t7, t8⟩ := OB14.out.cells
  simp only at t0 t1 t2 t3 t4 t5 t6 t7 t8
  have t9 := blk_lt OB14.out
  go_wp2_with fail
  clear x0 x1 x2 y0 y1 y2 z0 z1 z2 z3 z4 z5 z6 z7 z8 z9 t0 t1 t2 t3 t4 t5 t6 t7 t8 t9
  refine (SO.out _).mono ?_
  rintro e w15 ⟨rfl, hb⟩
  have B15 := Lib.hid (below_then B14.out hb)
  have KA15 := Lib.hid (KA14.out.below hb)
  have OA15 := Lib.hid (OA14.out.below hb)
  have KB15 := Lib.hid (KB14.out.below hb)
  have OB15 := Lib.hid (OB14.out.below hb)
  have VA15 := Lib.hid (VA14.out.below hb)
  have VB15 := Lib.hid (VB14.out.below hb)
  clear hb B14 KA14 OA14 KB14 OB14 VA14 VB14
  clear KA15
  clear KB15
  clear OA15
  clear OB15
  obtain ⟨x0, x1, x2, x3, x4, x5, x6, x7, x8, x9, x10, x11, x12⟩ := VA15.out.cells
  simp only at x1 x2 x3 x4 x5 x6 x7 x8 x9 x10 x11 x12
  obtain ⟨y0, y1, y2, y3, y4, y5, y6, y7, y8, y9, y10, y11, y12⟩ := VB15.out.cells
  simp only at y1 y2 y3 y4 y5 y6 y7 y8 y9 y10 y11 y12
  go_wp2_with fail
  refine (AL.out _).mono ?_
  rintro e wa ⟨rfl, hba⟩
  have Ba := Lib.hid (below_then B15.out hba)
  clear hba
  go_wp2_with fail
  go_ret
  exact ⟨rfl, Ba.out⟩
end Go.Proofs.YtienlhnbmobinaaGreat
end
