/- Kept of our texts for this claim: SegTellsWalk -/
import Derived.Test.YtienlhnbmobinaaRows
import Derived.Test.YtienlhnbmobinaaTkAf
import Derived.Test.YtienlhnbmobinaaTkAg
import Derived.Test.YtienlhnbmobinaaTkAh
import Derived.Test.YtienlhnbmobinaaTkAj
import Derived.Test.YtienlhnbmobinaaTkAk
import Derived.Test.YtienlhnbmobinaaTkAo
import Derived.Test.YtienlhnbmobinaaTkAt
import Derived.Test.YtienlhnbmobinaaTkAu
import Derived.Test.YtienlhnbmobinaaTkAv
import Derived.Test.YtienlhnbmobinaaTkAw
import Derived.Test.YtienlhnbmobinaaTkAx
import Derived.Test.YtienlhnbmobinaaTkAa
import Derived.Test.YtienlhnbmobinaaTkAc
import Derived.Test.YtienlhnbmobinaaTkAb
import Derived.Test.YtienlhnbmobinaaTkAd
import Derived.Test.YtienlhnbmobinaaTkAe
import Derived.WalkKit
import Derived.WalkLawsBesides
import Derived.WalkSpells
import Derived.LoopTactic
import Derived.WalkMore
import Derived.LoopN
import Derived.Laws.BitsAllLaws
import Derived.Laws.IdiomStrings
import Derived.BigQuiet
import Derived.Deep.QuietTactic
import Derived.Deep.DeepCutAuto
import Derived.Deep.RegionHeld3
import Derived.Deep.DrawnRows
import Derived.Lib.Hide
import Derived.Outline
import Derived.Deep.DeepMust
import Derived.Handy
import Derived.Test.YtienlhnbmobinaaTkAi
import Derived.Test.YtienlhnbmobinaaTkAs
import Derived.Test.YtienlhnbmobinaaTkAq
import Derived.Test.YtienlhnbmobinaaTkAp
import Derived.Test.YtienlhnbmobinaaTkAl
import Derived.Test.YtienlhnbmobinaaTkAy
import Derived.Test.YtienlhnbmobinaaTkAz
import Derived.Deep.CutBlock
import Derived.Deep.LoopGhost
import Derived.Deep.OwnRows
section
/- SegTells: its walk -/
namespace Go.Proofs.Ytienlhnbmobinaa
open Go.RowKit
set_option linter.unusedVariables false
set_option linter.unusedSimpArgs false
set_option maxHeartbeats 16000000 in
set_option maxRecDepth 100000 in
theorem segTellsLaw_any (p : Pg) (sv : Value) (L : List Sg) (v : Value) (own : Bool) (s : Sg) (tx number : Nat) (l : List UInt8) (w : World) (hp : p.wf) (ht : TextsAt w sv p.rows) (hz : ∀ r ∈ p.rows, r.length ≤ 140737488351232) (hl : SegsAt w v L) (hlw : ∀ s ∈ L, s.wf) (hs : s.wf) (htx : tx < 256 ^ 8) (hnum : number < 256 ^ 8) (hlz : l.length ≤ 140737488351232) :
    Calls Try.prog 12 #[pgV p sv, v, .bool own, sgV s, .int .u64 tx, .int .u64 number, .string ⟨l.toArray⟩] w fun e w' => e = .returned (.bool true) ∧ Below w.heap.size w w' := by
  have AL := Lib.hid fun W => works22_any W
  have HP := Lib.hid hp
  have HW := Lib.hid hlw
  have HSW := Lib.hid hs
  have HL := Lib.hid hl
  have HT := Lib.hid ht
  obtain ⟨n, hnx⟩ : ∃ n, n = p.rows.length := ⟨_, rfl⟩
  obtain ⟨A, cp, hsv, h2, h3, h4, h5⟩ := ht
  rw [← hnx] at hsv h2
  subst hsv
  unfold maxLen at h3
  have HN := Lib.hid hnx
  obtain ⟨m, hmx⟩ : ∃ m, m = L.length := ⟨_, rfl⟩
  obtain ⟨LA, lc, hlv, l2, l3, l5⟩ := hl
  rw [← hmx] at hlv l2
  subst hlv
  unfold maxLen at l3
  have HM := Lib.hid hmx
  have HV := Lib.hid fun sv v W h => heavy22_any p sv v W h hz
  obtain ⟨hv, hhv⟩ : ∃ b, b = heavy22 p.rows := ⟨_, rfl⟩
  rw [← hhv] at HV
  have HHV := Lib.hid hhv
  have hsz : (⟨l.toArray⟩ : ByteArray).size = l.length := rfl
  clear h4 h5 l5 hnx hmx hlw hp hs hz hhv
  obtain ⟨kind, level, id, lsn, next, rows⟩ := p
  obtain ⟨s0, s1, s2, s3, s4, s5, s6⟩ := s
  simp only at HT HN HV
  have P0 := Lib.hid ((PgBox.new w kind level id lsn next (.slice A n cp)).keep (.cells #[.int .u64 s0, .int .u8 s1, .int .u64 s2, .int .u32 s3, .int .u32 s4, .int .u32 s5, .int .u16 s6] 83))
  have G0 : Hid (SgBox ((w.alloc (.cells #[.int .u8 kind, .int .u8 level, .int .u32 id, .int .u64 lsn, .int .u32 next, .slice A n cp] 26)).alloc (.cells #[.int .u64 s0, .int .u8 s1, .int .u64 s2, .int .u32 s3, .int .u32 s4, .int .u32 s5, .int .u16 s6] 83)) (w.alloc (.cells #[.int .u8 kind, .int .u8 level, .int .u32 id, .int .u64 lsn, .int .u32 next, .slice A n cp] 26)).heap.size ⟨s0, s1, s2, s3, s4, s5, s6⟩) := heap_alloc_new (w.alloc (.cells #[.int .u8 kind, .int .u8 level, .int .u32 id, .int .u64 lsn, .int .u32 next, .slice A n cp] 26)) _
  have hz1 : (w.alloc (.cells #[.int .u8 kind, .int .u8 level, .int .u32 id, .int .u64 lsn, .int .u32 next, .slice A n cp] 26)).heap.size = w.heap.size + 1 := by simp
  rw [hz1] at G0
  have B0 := Lib.hid (below_then (alloc_below w (.cells #[.int .u8 kind, .int .u8 level, .int .u32 id, .int .u64 lsn, .int .u32 next, .slice A n cp] 26)) (alloc_below (w.alloc (.cells #[.int .u8 kind, .int .u8 level, .int .u32 id, .int .u64 lsn, .int .u32 next, .slice A n cp] 26)) (.cells #[.int .u64 s0, .int .u8 s1, .int .u64 s2, .int .u32 s3, .int .u32 s4, .int .u32 s5, .int .u16 s6] 83)))
  have T0 := Lib.hid (HT.out.below B0.out)
  have L0 := Lib.hid (HL.out.below B0.out)
  unfold pgV sgV
  simp only
  clear hz1 HT HL
  go_enter Try.func12, Try.ntmps12
  go_upto_region 1 with fail
  generalize (w.alloc (.cells #[.int .u8 kind, .int .u8 level, .int .u32 id, .int .u64 lsn, .int .u32 next, .slice A n cp] 26)).alloc (.cells #[.int .u64 s0, .int .u8 s1, .int .u64 s2, .int .u32 s3, .int .u32 s4, .int .u32 s5, .int .u16 s6] 83) = w0 at *
  obtain ⟨x0, x1, x2, x3, x4, x5, x6⟩ := P0.out.cells
  have PJ := Lib.hid (PgsIn.one w0 ⟨kind, level, id, lsn, next, rows⟩ (.slice A n cp) T0.out)
  simp only at PJ
  have hb2 := Lib.hid (alloc_below w0 (.cells #[.int .u8 kind, .int .u8 level, .int .u32 id, .int .u64 lsn, .int .u32 next, .slice A n cp] 26))
  go_wp2_with fail
  refine (HV.out _ _ _ PJ.out).mono ?_
  rintro e w1 ⟨rfl, hb⟩
  have B01 := Lib.hid (below_then hb2.out hb)
  have B1 := Lib.hid (below_then B0.out B01.out)
  have P1 := Lib.hid (P0.out.below B01.out)
  have G1 := Lib.hid (G0.out.below B01.out)
  have T1 := Lib.hid (T0.out.below B01.out)
  have L1 := Lib.hid (L0.out.below B01.out)
  clear hb hb2 B0 B01 P0 G0 T0 L0 PJ HV x0 x1 x2 x3 x4 x5 x6
  cases hv with
  | true =>
    go_wp2_with fail
    refine (AL.out _).mono ?_
    rintro e wa ⟨rfl, hba⟩
    have Ba := Lib.hid (below_then B1.out hba)
    clear hba
    go_wp2_with fail
    go_ret
    exact ⟨rfl, Ba.out⟩
  | false =>
  by_cases hm40 : 40 < m
  · have hmi : decide (40 < m) = true := decide_eq_true hm40
    have hmi2 : (40 : Int) < (m : Int) := by omega
    go_wp2_with fail
    refine (AL.out _).mono ?_
    rintro e wa ⟨rfl, hba⟩
    have Ba := Lib.hid (below_then B1.out hba)
    clear hba
    go_wp2_with fail
    go_ret
    exact ⟨rfl, Ba.out⟩
  have hmi : decide (40 < m) = false := decide_eq_false hm40
  have hmi2 : ¬ (40 : Int) < (m : Int) := by omega
  by_cases hl5 : 512 < l.length
  · have hmj : decide (512 < l.length) = true := decide_eq_true hl5
    have hmj2 : (512 : Int) < (l.length : Int) := by omega
    go_wp2_with fail
    refine (AL.out _).mono ?_
    rintro e wa ⟨rfl, hba⟩
    have Ba := Lib.hid (below_then B1.out hba)
    clear hba
    go_wp2_with fail
    go_ret
    exact ⟨rfl, Ba.out⟩
  have hmj : decide (512 < l.length) = false := decide_eq_false hl5
  have hmj2 : ¬ (512 : Int) < (l.length : Int) := by omega
  have hh := heavy22_no HHV.out.symm
  have CPG := Lib.hid fun W h h2 => page22_any ⟨kind, level, id, lsn, next, rows⟩ (.slice A n cp) L (.slice LA m lc) own W HP.out h (Nat.le_trans hh.2 (by decide)) h2 HW.out (by have := HM.out; omega)
  unfold pgV at CPG
  simp only at CPG
  clear hh hm40 hl5
  obtain ⟨x0, x1, x2, x3, x4, x5, x6⟩ := P1.out.cells
  go_wp2_with fail
  refine (CPG.out _ T1.out L1.out).mono ?_
  rintro e w2 ⟨⟨qa, qb, qc, qd, qe, rowsQ⟩, sq, rfl, hqw, hqb, hqt, hb⟩
  simp only at hqb hqt
  have B2 := Lib.hid (below_then B1.out hb)
  have G2 := Lib.hid (G1.out.below hb)
  have U2 := Lib.hid hqt
  obtain ⟨nq, hnqx⟩ : ∃ z, z = rowsQ.length := ⟨_, rfl⟩
  have HNQ := Lib.hid hnqx
  obtain ⟨QA, qcp, hqs, _, _, _, _⟩ := hqt
  rw [← hnqx] at hqs
  subst hqs
  have HQW := Lib.hid hqw
  have HQB := Lib.hid hqb
  clear hqw hqb hnqx hb B1 G1 P1 T1 L1 CPG x0 x1 x2 x3 x4 x5 x6
  (try unfold pgV)
  (try simp only)
  go_upto_region 4 with fail
  have BN := Lib.hid (alloc_below w2 (.cells #[.int .u8 qa, .int .u8 qb, .int .u32 qc, .int .u64 qd, .int .u32 qe, .slice QA nq qcp] 26))
  have Q3 := Lib.hid (PgBox.new w2 qa qb qc qd qe (.slice QA nq qcp))
  generalize w2.alloc (.cells #[.int .u8 qa, .int .u8 qb, .int .u32 qc, .int .u64 qd, .int .u32 qe, .slice QA nq qcp] 26) = w3 at *
  have hb := BN.out
  clear BN
  have B3 := Lib.hid (below_then B2.out hb)
  have G3 := Lib.hid (G2.out.below hb)
  have U3 := Lib.hid (U2.out.below hb)
  clear hb B2 G2 U2
  have CE := Lib.hid fun W => segEncode_any ⟨s0, s1, s2, s3, s4, s5, s6⟩ W HSW.out
  have CR := Lib.hid fun W => refSegEncode_any ⟨s0, s1, s2, s3, s4, s5, s6⟩ W HSW.out
  obtain ⟨ou, hou⟩ : ∃ z, z = Sg.out ⟨s0, s1, s2, s3, s4, s5, s6⟩ := ⟨_, rfl⟩
  rw [← hou] at CE CR
  have HOU := Lib.hid hou
  clear hou
  obtain ⟨ea, eb⟩ := ou
  unfold sgV at CE CR
  simp only at CE CR
  obtain ⟨y0, y1, y2, y3, y4, y5, y6, y7⟩ := G3.out.cells
  simp only at y1 y2 y3 y4 y5 y6 y7
  obtain ⟨x0, x1, x2, x3, x4, x5, x6⟩ := Q3.out.cells
  go_wp2_with fail
  clear y0 y1 y2 y3 y4 y5 y6 y7 x0 x1 x2 x3 x4 x5 x6
  refine (CE.out _).mono ?_
  rintro e w4 ⟨rfl, hb⟩
  have B4 := Lib.hid (below_then B3.out hb)
  have G4 := Lib.hid (G3.out.below hb)
  have U4 := Lib.hid (U3.out.below hb)
  have Q4 := Lib.hid (Q3.out.below hb)
  clear hb B3 G3 U3 Q3
  obtain ⟨y0, y1, y2, y3, y4, y5, y6, y7⟩ := G4.out.cells
  simp only at y1 y2 y3 y4 y5 y6 y7
  obtain ⟨x0, x1, x2, x3, x4, x5, x6⟩ := Q4.out.cells
  go_wp2_with fail
  clear y0 y1 y2 y3 y4 y5 y6 y7 x0 x1 x2 x3 x4 x5 x6
  refine (CR.out _).mono ?_
  rintro e w5 ⟨rfl, hb⟩
  have B5 := Lib.hid (below_then B4.out hb)
  have G5 := Lib.hid (G4.out.below hb)
  have U5 := Lib.hid (U4.out.below hb)
  have Q5 := Lib.hid (Q4.out.below hb)
  clear hb B4 G4 U4 Q4
  have CD := Lib.hid fun W => segDecode_any l W (by omega)
  have CX := Lib.hid fun W => refSegDecode_any l W (by omega)
  obtain ⟨⟨d0, d1, d2, d3, d4, d5, d6⟩, hdd⟩ : ∃ z, z = (sgDec l).getD Sg.zero := ⟨_, rfl⟩
  obtain ⟨de, hde⟩ : ∃ z : Int, z = if (sgDec l).isSome then 0 else 7 := ⟨_, rfl⟩
  unfold sgDecV at CD CX
  rw [← hdd, ← hde] at CD CX
  unfold sgV at CD CX
  simp only at CD CX
  clear hdd hde
  obtain ⟨y0, y1, y2, y3, y4, y5, y6, y7⟩ := G5.out.cells
  simp only at y1 y2 y3 y4 y5 y6 y7
  obtain ⟨x0, x1, x2, x3, x4, x5, x6⟩ := Q5.out.cells
  go_wp2_with fail
  clear y0 y1 y2 y3 y4 y5 y6 y7 x0 x1 x2 x3 x4 x5 x6
  refine (CD.out _).mono ?_
  rintro e w6 ⟨rfl, hb⟩
  have B6 := Lib.hid (below_then B5.out hb)
  have G6 := Lib.hid (G5.out.below hb)
  have U6 := Lib.hid (U5.out.below hb)
  have Q6 := Lib.hid (Q5.out.below hb)
  clear hb B5 G5 U5 Q5
  obtain ⟨y0, y1, y2, y3, y4, y5, y6, y7⟩ := G6.out.cells
  simp only at y1 y2 y3 y4 y5 y6 y7
  obtain ⟨x0, x1, x2, x3, x4, x5, x6⟩ := Q6.out.cells
  go_upto_region 7 with fail
  clear y0 y1 y2 y3 y4 y5 y6 y7 x0 x1 x2 x3 x4 x5 x6
  have BN := Lib.hid (alloc_below w6 (.cells #[.int .u64 d0, .int .u8 d1, .int .u64 d2, .int .u32 d3, .int .u32 d4, .int .u32 d5, .int .u16 d6] 83))
  have GD7 : Hid (SgBox (w6.alloc (.cells #[.int .u64 d0, .int .u8 d1, .int .u64 d2, .int .u32 d3, .int .u32 d4, .int .u32 d5, .int .u16 d6] 83)) w6.heap.size ⟨d0, d1, d2, d3, d4, d5, d6⟩) := heap_alloc_new w6 _
  generalize w6.alloc (.cells #[.int .u64 d0, .int .u8 d1, .int .u64 d2, .int .u32 d3, .int .u32 d4, .int .u32 d5, .int .u16 d6] 83) = w7 at *
  have hb := BN.out
  clear BN
  have B7 := Lib.hid (below_then B6.out hb)
  have G7 := Lib.hid (G6.out.below hb)
  have U7 := Lib.hid (U6.out.below hb)
  have Q7 := Lib.hid (Q6.out.below hb)
  clear hb B6 G6 U6 Q6
  obtain ⟨y0, y1, y2, y3, y4, y5, y6, y7⟩ := G7.out.cells
  simp only at y1 y2 y3 y4 y5 y6 y7
  obtain ⟨x0, x1, x2, x3, x4, x5, x6⟩ := Q7.out.cells
  obtain ⟨z0, z1, z2, z3, z4, z5, z6, z7⟩ := GD7.out.cells
  simp only at z1 z2 z3 z4 z5 z6 z7
  go_wp2_with fail
  clear y0 y1 y2 y3 y4 y5 y6 y7 x0 x1 x2 x3 x4 x5 x6 z0 z1 z2 z3 z4 z5 z6 z7
  refine (CX.out _).mono ?_
  rintro e w8 ⟨rfl, hb⟩
  have B8 := Lib.hid (below_then B7.out hb)
  have G8 := Lib.hid (G7.out.below hb)
  have U8 := Lib.hid (U7.out.below hb)
  have Q8 := Lib.hid (Q7.out.below hb)
  have GD8 := Lib.hid (GD7.out.below hb)
  clear hb B7 G7 U7 Q7 GD7
  obtain ⟨y0, y1, y2, y3, y4, y5, y6, y7⟩ := G8.out.cells
  simp only at y1 y2 y3 y4 y5 y6 y7
  obtain ⟨x0, x1, x2, x3, x4, x5, x6⟩ := Q8.out.cells
  obtain ⟨z0, z1, z2, z3, z4, z5, z6, z7⟩ := GD8.out.cells
  simp only at z1 z2 z3 z4 z5 z6 z7
  go_upto_region 8 with fail
  clear y0 y1 y2 y3 y4 y5 y6 y7 x0 x1 x2 x3 x4 x5 x6 z0 z1 z2 z3 z4 z5 z6 z7
  have BN := Lib.hid (alloc_below w8 (.cells #[.int .u64 d0, .int .u8 d1, .int .u64 d2, .int .u32 d3, .int .u32 d4, .int .u32 d5, .int .u16 d6] 83))
  have GE9 : Hid (SgBox (w8.alloc (.cells #[.int .u64 d0, .int .u8 d1, .int .u64 d2, .int .u32 d3, .int .u32 d4, .int .u32 d5, .int .u16 d6] 83)) w8.heap.size ⟨d0, d1, d2, d3, d4, d5, d6⟩) := heap_alloc_new w8 _
  generalize w8.alloc (.cells #[.int .u64 d0, .int .u8 d1, .int .u64 d2, .int .u32 d3, .int .u32 d4, .int .u32 d5, .int .u16 d6] 83) = w9 at *
  have hb := BN.out
  clear BN
  have B9 := Lib.hid (below_then B8.out hb)
  have G9 := Lib.hid (G8.out.below hb)
  have U9 := Lib.hid (U8.out.below hb)
  have Q9 := Lib.hid (Q8.out.below hb)
  have GD9 := Lib.hid (GD8.out.below hb)
  clear hb B8 G8 U8 Q8 GD8
  have MY := Lib.hid fun W => segMay_any ⟨s0, s1, s2, s3, s4, s5, s6⟩ W
  have MR := Lib.hid fun W => refSegMay_any ⟨s0, s1, s2, s3, s4, s5, s6⟩ W
  have hout : (⟨ea, eb⟩ : List UInt8 × Int) = if Sg.may ⟨s0, s1, s2, s3, s4, s5, s6⟩ then (Sg.enc ⟨s0, s1, s2, s3, s4, s5, s6⟩, 0) else ([], 2) := HOU.out
  have hlen : (Sg.enc ⟨s0, s1, s2, s3, s4, s5, s6⟩).length = 31 := sg_len _
  obtain ⟨my, hmy⟩ : ∃ b, b = Sg.may ⟨s0, s1, s2, s3, s4, s5, s6⟩ := ⟨_, rfl⟩
  rw [← hmy] at MY MR hout
  unfold sgV at MY MR
  simp only at MY MR
  have hab : (ea == ea) = true := by simp
  have hdd : ∀ W, (binOp .neq 83 (.agg #[.int .u64 d0, .int .u8 d1, .int .u64 d2, .int .u32 d3, .int .u32 d4, .int .u32 d5, .int .u16 d6]) (.agg #[.int .u64 d0, .int .u8 d1, .int .u64 d2, .int .u32 d3, .int .u32 d4, .int .u32 d5, .int .u16 d6])).run Try.prog W = .ok (.bool false) W := fun W => neSegSelf ⟨d0, d1, d2, d3, d4, d5, d6⟩ W
  have HDD := Lib.hid hdd
  clear hdd hmy
  clear CE CR CD CX
  go_cut [112] (fun s112 w' => s112 = .bool false ∧ Hid (Below w9.heap.size w9 w'))
  case first =>
    clear AL HP HW
    obtain ⟨y0, y1, y2, y3, y4, y5, y6, y7⟩ := G9.out.cells
    simp only at y1 y2 y3 y4 y5 y6 y7
    have ey1 := ext_cell y1 y0
    have ey2 := ext_cell y2 y0
    have ey3 := ext_cell y3 y0
    have ey4 := ext_cell y4 y0
    have ey5 := ext_cell y5 y0
    have ey6 := ext_cell y6 y0
    have ey7 := ext_cell y7 y0
    clear y0 y1 y2 y3 y4 y5 y6 y7
    obtain ⟨z0, z1, z2, z3, z4, z5, z6, z7⟩ := GD9.out.cells
    simp only at z1 z2 z3 z4 z5 z6 z7
    have ez1 := ext_cell z1 z0
    have ez2 := ext_cell z2 z0
    have ez3 := ext_cell z3 z0
    have ez4 := ext_cell z4 z0
    have ez5 := ext_cell z5 z0
    have ez6 := ext_cell z6 z0
    have ez7 := ext_cell z7 z0
    clear z0 z1 z2 z3 z4 z5 z6 z7
    obtain ⟨t0, t1, t2, t3, t4, t5, t6, t7⟩ := GE9.out.cells
    simp only at t1 t2 t3 t4 t5 t6 t7
    have et1 := ext_cell t1 t0
    have et2 := ext_cell t2 t0
    have et3 := ext_cell t3 t0
    have et4 := ext_cell t4 t0
    have et5 := ext_cell t5 t0
    have et6 := ext_cell t6 t0
    have et7 := ext_cell t7 t0
    clear t0 t1 t2 t3 t4 t5 t6 t7
    have Z1 := Lib.hid fun (y : Ext w9.heap.size w9) => MY.out y.val
    have Z2 := Lib.hid fun (y : Ext w9.heap.size w9) => MR.out y.val
    have hdd := HDD.out
    clear MY MR
    have de0 : (de != de) = false := by simp
    have de1 : ((⟨ea.toArray⟩ : ByteArray).toList == (⟨ea.toArray⟩ : ByteArray).toList) = true := by simp
    cases my with
    | true =>
      rw [if_pos rfl] at hout
      obtain ⟨h1, h2⟩ := Prod.mk.inj hout
      have hne : ea.length = 31 := by rw [h1]; exact hlen
      have de2 : ea.isEmpty = false := by
        cases ea with
        | nil => simp at hne
        | cons x l => rfl
      subst h2
      clear h1 hout hlen hne hab
      refine wp_region_ext w9.heap.size (by kernel_rfl) (by kernel_rfl) ?_
      repeat (go_big_quiet_step (first
        | (go_at_call 62; with_reducible exact ext_call _ (Nat.le_refl _) (Z1.out _))
        | (go_at_call 63; with_reducible exact ext_call _ (Nat.le_refl _) (Z2.out _))))
      refine wpQuiet_nil ?_
      rintro _ ⟨X, rfl⟩
      have hbX := Lib.hid X.below
      generalize X.val = w9 at *
      go_wp2_with fail
      go_meet
      exact ⟨rfl, hbX⟩
    | false =>
      rw [if_neg (by simp)] at hout
      obtain ⟨h1, h2⟩ := Prod.mk.inj hout
      subst h1
      subst h2
      clear hout hlen hab de1
      refine wp_region_ext w9.heap.size (by kernel_rfl) (by kernel_rfl) ?_
      repeat (go_big_quiet_step (first
        | (go_at_call 62; with_reducible exact ext_call _ (Nat.le_refl _) (Z1.out _))
        | (go_at_call 63; with_reducible exact ext_call _ (Nat.le_refl _) (Z2.out _))))
      refine wpQuiet_nil ?_
      rintro _ ⟨X, rfl⟩
      have hbX := Lib.hid X.below
      generalize X.val = w9 at *
      go_wp2_with fail
      go_meet
      exact ⟨rfl, hbX⟩
  case rest =>
  obtain ⟨rfl, hbc⟩ := hcut
  generalize wc = w10 at *
  have hb := hbc.out
  clear hbc MY MR hout hlen hab HDD HOU
  have B10 := Lib.hid (below_then B9.out hb)
  have G10 := Lib.hid (G9.out.below hb)
  have U10 := Lib.hid (U9.out.below hb)
  have Q10 := Lib.hid (Q9.out.below hb)
  have GD10 := Lib.hid (GD9.out.below hb)
  have GE10 := Lib.hid (GE9.out.below hb)
  clear hb B9 G9 U9 Q9 GD9 GE9
  clear GD10
  clear GE10
  have hq6 : rowsQ.length ≤ 1000000 := by have := weightB_length rowsQ; have h9 : weightB rowsQ ≤ 1000000 := HQB.out; omega
  have CC := Lib.hid fun W h => copied22_any ⟨qa, qb, qc, qd, qe, rowsQ⟩ (.slice QA nq qcp) W h hq6
  have CW := Lib.hid fun sv W (h : TextsAt W sv rowsQ) => segRows_any ⟨qa, qb, qc, qd, qe, rowsQ⟩ sv W HQW.out h HQB.out
  have RW := Lib.hid fun W (h : TextsAt W (.slice QA nq qcp) rowsQ) => refSegRows_any ⟨qa, qb, qc, qd, qe, rowsQ⟩ (.slice QA nq qcp) W HQW.out h HQB.out
  have CF := Lib.hid fun sv W (h : TextsAt W sv rowsQ) => segFind_any ⟨qa, qb, qc, qd, qe, rowsQ⟩ sv tx W HQW.out h HQB.out
  have RF := Lib.hid fun W (h : TextsAt W (.slice QA nq qcp) rowsQ) => refSegFind_any ⟨qa, qb, qc, qd, qe, rowsQ⟩ (.slice QA nq qcp) tx W HQW.out h HQB.out
  have CP := Lib.hid fun sv W (h : TextsAt W sv rowsQ) => segPut_any ⟨qa, qb, qc, qd, qe, rowsQ⟩ sv ⟨s0, s1, s2, s3, s4, s5, s6⟩ W HQW.out h HQB.out HSW.out
  have RP := Lib.hid fun W (h : TextsAt W (.slice QA nq qcp) rowsQ) => refSegPut_any ⟨qa, qb, qc, qd, qe, rowsQ⟩ (.slice QA nq qcp) ⟨s0, s1, s2, s3, s4, s5, s6⟩ W HQW.out h HQB.out HSW.out
  have CD := Lib.hid fun sv W (h : TextsAt W sv rowsQ) => segDrop_any ⟨qa, qb, qc, qd, qe, rowsQ⟩ sv tx W HQW.out h HQB.out
  have RD := Lib.hid fun W (h : TextsAt W (.slice QA nq qcp) rowsQ) => refSegDrop_any ⟨qa, qb, qc, qd, qe, rowsQ⟩ (.slice QA nq qcp) tx W HQW.out h HQB.out
  have CM := Lib.hid fun sv W (h : TextsAt W sv rowsQ) => segCommit_any ⟨qa, qb, qc, qd, qe, rowsQ⟩ sv tx number W HQW.out h HQB.out hnum
  have RM := Lib.hid fun W (h : TextsAt W (.slice QA nq qcp) rowsQ) => refSegCommit_any ⟨qa, qb, qc, qd, qe, rowsQ⟩ (.slice QA nq qcp) tx number W HQW.out h HQB.out hnum
  have hlr6 : ((segsB ⟨qa, qb, qc, qd, qe, rowsQ⟩).getD []).length ≤ 1000000 := by
    cases h : segsB ⟨qa, qb, qc, qd, qe, rowsQ⟩ with
    | none => exact Nat.zero_le _
    | some L => exact seg_len_of hq6 h
  unfold SegPost at CW RW
  obtain ⟨LR, hLR⟩ : ∃ z, z = (segsB ⟨qa, qb, qc, qd, qe, rowsQ⟩).getD [] := ⟨_, rfl⟩
  obtain ⟨er, her⟩ : ∃ z : Int, z = if (segsB ⟨qa, qb, qc, qd, qe, rowsQ⟩).isSome then 0 else 60 := ⟨_, rfl⟩
  rw [← hLR, ← her] at CW RW
  rw [← hLR] at hlr6
  obtain ⟨⟨⟨f0, f1, f2, f3, f4, f5, f6⟩, fi⟩, hff⟩ : ∃ z, z = sFindB ⟨qa, qb, qc, qd, qe, rowsQ⟩ tx := ⟨_, rfl⟩
  obtain ⟨⟨⟨a0, a1, a2, a3, a4, a5, a6, a7, a8⟩, e1⟩, haa⟩ : ∃ z, z = sPutB ⟨qa, qb, qc, qd, qe, rowsQ⟩ ⟨s0, s1, s2, s3, s4, s5, s6⟩ := ⟨_, rfl⟩
  obtain ⟨⟨⟨b0, b1, b2, b3, b4, b5, b6, b7, b8⟩, e2⟩, hbb⟩ : ∃ z, z = sDropB ⟨qa, qb, qc, qd, qe, rowsQ⟩ tx := ⟨_, rfl⟩
  obtain ⟨⟨⟨c0, c1, c2, c3, c4, c5, c6, c7, c8⟩, e3⟩, hcc⟩ : ∃ z, z = sCommitB ⟨qa, qb, qc, qd, qe, rowsQ⟩ tx number := ⟨_, rfl⟩
  rw [← hff] at CF RF
  rw [← haa] at CP RP
  rw [← hbb] at CD RD
  rw [← hcc] at CM RM
  unfold pgV at CC CW RW CF RF CP RP CD RD CM RM
  unfold sgV at CF RF CP RP
  unfold odV at CP RP CD RD CM RM
  (try simp only at CC)
  (try simp only at CW)
  (try simp only at RW)
  (try simp only at CF)
  (try simp only at RF)
  (try simp only at CP)
  (try simp only at RP)
  (try simp only at CD)
  (try simp only at RD)
  (try simp only at CM)
  (try simp only at RM)
  clear hLR her hff haa hbb hcc
  obtain ⟨nr, hnr⟩ : ∃ z, z = LR.length := ⟨_, rfl⟩
  have HNR := Lib.hid hnr
  have HL6 := Lib.hid hlr6
  clear hnr hlr6 hq6
  obtain ⟨y0, y1, y2, y3, y4, y5, y6, y7⟩ := G10.out.cells
  simp only at y1 y2 y3 y4 y5 y6 y7
  obtain ⟨x0, x1, x2, x3, x4, x5, x6⟩ := Q10.out.cells
  go_wp2_with fail
  clear y0 y1 y2 y3 y4 y5 y6 y7 x0 x1 x2 x3 x4 x5 x6
  refine (CC.out _ U10.out).mono ?_
  rintro e w11 ⟨sv11, rfl, GG, hb⟩
  (try simp only at GG)
  have D11 := Lib.hid GG
  obtain ⟨DA11, dcp11, hdv11, _, _, _, _⟩ := GG
  rw [← HNQ.out] at hdv11
  subst hdv11
  have B11 := Lib.hid (below_then B10.out hb)
  have G11 := Lib.hid (G10.out.below hb)
  have U11 := Lib.hid (U10.out.below hb)
  have Q11 := Lib.hid (Q10.out.below hb)
  clear hb B10 G10 U10 Q10
  obtain ⟨y0, y1, y2, y3, y4, y5, y6, y7⟩ := G11.out.cells
  simp only at y1 y2 y3 y4 y5 y6 y7
  obtain ⟨x0, x1, x2, x3, x4, x5, x6⟩ := Q11.out.cells
  go_wp2_with fail
  clear y0 y1 y2 y3 y4 y5 y6 y7 x0 x1 x2 x3 x4 x5 x6
  refine (CW.out _ _ D11.out).mono ?_
  rintro e w12 ⟨v12, rfl, hO, hb⟩
  have RX12 := Lib.hid hO.at_
  obtain ⟨RA12, rc12, hv12, _, _, _⟩ := hO.at_
  rw [← HNR.out] at hv12
  subst hv12
  clear hO
  have B12 := Lib.hid (below_then B11.out hb)
  have G12 := Lib.hid (G11.out.below hb)
  have U12 := Lib.hid (U11.out.below hb)
  have Q12 := Lib.hid (Q11.out.below hb)
  clear hb B11 G11 U11 Q11
  obtain ⟨y0, y1, y2, y3, y4, y5, y6, y7⟩ := G12.out.cells
  simp only at y1 y2 y3 y4 y5 y6 y7
  obtain ⟨x0, x1, x2, x3, x4, x5, x6⟩ := Q12.out.cells
  go_wp2_with fail
  clear y0 y1 y2 y3 y4 y5 y6 y7 x0 x1 x2 x3 x4 x5 x6
  refine (RW.out _ U12.out).mono ?_
  rintro e w13 ⟨v13, rfl, hO, hb⟩
  have RY13 := Lib.hid hO.at_
  obtain ⟨RA13, rc13, hv13, _, _, _⟩ := hO.at_
  rw [← HNR.out] at hv13
  subst hv13
  clear hO
  have B13 := Lib.hid (below_then B12.out hb)
  have G13 := Lib.hid (G12.out.below hb)
  have U13 := Lib.hid (U12.out.below hb)
  have Q13 := Lib.hid (Q12.out.below hb)
  have RX13 := Lib.hid (RX12.out.below hb)
  clear hb B12 G12 U12 Q12 RX12
  obtain ⟨y0, y1, y2, y3, y4, y5, y6, y7⟩ := G13.out.cells
  simp only at y1 y2 y3 y4 y5 y6 y7
  obtain ⟨x0, x1, x2, x3, x4, x5, x6⟩ := Q13.out.cells
  go_wp2_with fail
  clear y0 y1 y2 y3 y4 y5 y6 y7 x0 x1 x2 x3 x4 x5 x6
  refine (CC.out _ U13.out).mono ?_
  rintro e w14 ⟨sv14, rfl, GG, hb⟩
  (try simp only at GG)
  have D14 := Lib.hid GG
  obtain ⟨DA14, dcp14, hdv14, _, _, _, _⟩ := GG
  rw [← HNQ.out] at hdv14
  subst hdv14
  have B14 := Lib.hid (below_then B13.out hb)
  have G14 := Lib.hid (G13.out.below hb)
  have U14 := Lib.hid (U13.out.below hb)
  have Q14 := Lib.hid (Q13.out.below hb)
  have RX14 := Lib.hid (RX13.out.below hb)
  have RY14 := Lib.hid (RY13.out.below hb)
  clear hb B13 G13 U13 Q13 RX13 RY13
  obtain ⟨y0, y1, y2, y3, y4, y5, y6, y7⟩ := G14.out.cells
  simp only at y1 y2 y3 y4 y5 y6 y7
  obtain ⟨x0, x1, x2, x3, x4, x5, x6⟩ := Q14.out.cells
  go_wp2_with fail
  clear y0 y1 y2 y3 y4 y5 y6 y7 x0 x1 x2 x3 x4 x5 x6
  refine (CF.out _ _ D14.out).mono ?_
  rintro e w15 ⟨rfl, hb⟩
  have B15 := Lib.hid (below_then B14.out hb)
  have G15 := Lib.hid (G14.out.below hb)
  have U15 := Lib.hid (U14.out.below hb)
  have Q15 := Lib.hid (Q14.out.below hb)
  have RX15 := Lib.hid (RX14.out.below hb)
  have RY15 := Lib.hid (RY14.out.below hb)
  clear hb B14 G14 U14 Q14 RX14 RY14
  obtain ⟨y0, y1, y2, y3, y4, y5, y6, y7⟩ := G15.out.cells
  simp only at y1 y2 y3 y4 y5 y6 y7
  obtain ⟨x0, x1, x2, x3, x4, x5, x6⟩ := Q15.out.cells
  go_upto_region 13 with fail
  clear y0 y1 y2 y3 y4 y5 y6 y7 x0 x1 x2 x3 x4 x5 x6
  have BN := Lib.hid (alloc_below w15 (.cells #[.int .u64 f0, .int .u8 f1, .int .u64 f2, .int .u32 f3, .int .u32 f4, .int .u32 f5, .int .u16 f6] 83))
  have GF16 : Hid (SgBox (w15.alloc (.cells #[.int .u64 f0, .int .u8 f1, .int .u64 f2, .int .u32 f3, .int .u32 f4, .int .u32 f5, .int .u16 f6] 83)) w15.heap.size ⟨f0, f1, f2, f3, f4, f5, f6⟩) := heap_alloc_new w15 _
  generalize w15.alloc (.cells #[.int .u64 f0, .int .u8 f1, .int .u64 f2, .int .u32 f3, .int .u32 f4, .int .u32 f5, .int .u16 f6] 83) = w16 at *
  have hb := BN.out
  clear BN
  have B16 := Lib.hid (below_then B15.out hb)
  have G16 := Lib.hid (G15.out.below hb)
  have U16 := Lib.hid (U15.out.below hb)
  have Q16 := Lib.hid (Q15.out.below hb)
  have RX16 := Lib.hid (RX15.out.below hb)
  have RY16 := Lib.hid (RY15.out.below hb)
  clear hb B15 G15 U15 Q15 RX15 RY15
  obtain ⟨y0, y1, y2, y3, y4, y5, y6, y7⟩ := G16.out.cells
  simp only at y1 y2 y3 y4 y5 y6 y7
  obtain ⟨x0, x1, x2, x3, x4, x5, x6⟩ := Q16.out.cells
  obtain ⟨z0, z1, z2, z3, z4, z5, z6, z7⟩ := GF16.out.cells
  simp only at z1 z2 z3 z4 z5 z6 z7
  go_wp2_with fail
  clear y0 y1 y2 y3 y4 y5 y6 y7 x0 x1 x2 x3 x4 x5 x6 z0 z1 z2 z3 z4 z5 z6 z7
  refine (RF.out _ U16.out).mono ?_
  rintro e w17 ⟨rfl, hb⟩
  have B17 := Lib.hid (below_then B16.out hb)
  have G17 := Lib.hid (G16.out.below hb)
  have U17 := Lib.hid (U16.out.below hb)
  have Q17 := Lib.hid (Q16.out.below hb)
  have RX17 := Lib.hid (RX16.out.below hb)
  have RY17 := Lib.hid (RY16.out.below hb)
  have GF17 := Lib.hid (GF16.out.below hb)
  clear hb B16 G16 U16 Q16 RX16 RY16 GF16
  obtain ⟨y0, y1, y2, y3, y4, y5, y6, y7⟩ := G17.out.cells
  simp only at y1 y2 y3 y4 y5 y6 y7
  obtain ⟨x0, x1, x2, x3, x4, x5, x6⟩ := Q17.out.cells
  obtain ⟨z0, z1, z2, z3, z4, z5, z6, z7⟩ := GF17.out.cells
  simp only at z1 z2 z3 z4 z5 z6 z7
  go_upto_region 14 with fail
  clear y0 y1 y2 y3 y4 y5 y6 y7 x0 x1 x2 x3 x4 x5 x6 z0 z1 z2 z3 z4 z5 z6 z7
  have BN := Lib.hid (alloc_below w17 (.cells #[.int .u64 f0, .int .u8 f1, .int .u64 f2, .int .u32 f3, .int .u32 f4, .int .u32 f5, .int .u16 f6] 83))
  have GG18 : Hid (SgBox (w17.alloc (.cells #[.int .u64 f0, .int .u8 f1, .int .u64 f2, .int .u32 f3, .int .u32 f4, .int .u32 f5, .int .u16 f6] 83)) w17.heap.size ⟨f0, f1, f2, f3, f4, f5, f6⟩) := heap_alloc_new w17 _
  generalize w17.alloc (.cells #[.int .u64 f0, .int .u8 f1, .int .u64 f2, .int .u32 f3, .int .u32 f4, .int .u32 f5, .int .u16 f6] 83) = w18 at *
  have hb := BN.out
  clear BN
  have B18 := Lib.hid (below_then B17.out hb)
  have G18 := Lib.hid (G17.out.below hb)
  have U18 := Lib.hid (U17.out.below hb)
  have Q18 := Lib.hid (Q17.out.below hb)
  have RX18 := Lib.hid (RX17.out.below hb)
  have RY18 := Lib.hid (RY17.out.below hb)
  have GF18 := Lib.hid (GF17.out.below hb)
  clear hb B17 G17 U17 Q17 RX17 RY17 GF17
  have ee : (er != er) = false := by simp
  have ef : (fi != fi) = false := by simp
  have hfs : ∀ W, (binOp .neq 83 (.agg #[.int .u64 f0, .int .u8 f1, .int .u64 f2, .int .u32 f3, .int .u32 f4, .int .u32 f5, .int .u16 f6]) (.agg #[.int .u64 f0, .int .u8 f1, .int .u64 f2, .int .u32 f3, .int .u32 f4, .int .u32 f5, .int .u16 f6])).run Try.prog W = .ok (.bool false) W := fun W => neSegSelf ⟨f0, f1, f2, f3, f4, f5, f6⟩ W
  obtain ⟨y0, y1, y2, y3, y4, y5, y6, y7⟩ := G18.out.cells
  simp only at y1 y2 y3 y4 y5 y6 y7
  obtain ⟨x0, x1, x2, x3, x4, x5, x6⟩ := Q18.out.cells
  obtain ⟨z0, z1, z2, z3, z4, z5, z6, z7⟩ := GF18.out.cells
  simp only at z1 z2 z3 z4 z5 z6 z7
  obtain ⟨t0, t1, t2, t3, t4, t5, t6, t7⟩ := GG18.out.cells
  simp only at t1 t2 t3 t4 t5 t6 t7
  go_wp2_with fail
  clear y0 y1 y2 y3 y4 y5 y6 y7 x0 x1 x2 x3 x4 x5 x6 z0 z1 z2 z3 z4 z5 z6 z7 t0 t1 t2 t3 t4 t5 t6 t7
  refine (same22_any LR _ _ _ RX18.out RY18.out HL6.out).mono ?_
  rintro e w19 ⟨rfl, hb⟩
  have B19 := Lib.hid (below_then B18.out hb)
  have G19 := Lib.hid (G18.out.below hb)
  have U19 := Lib.hid (U18.out.below hb)
  have Q19 := Lib.hid (Q18.out.below hb)
  have RX19 := Lib.hid (RX18.out.below hb)
  have RY19 := Lib.hid (RY18.out.below hb)
  have GF19 := Lib.hid (GF18.out.below hb)
  have GG19 := Lib.hid (GG18.out.below hb)
  clear hb B18 G18 U18 Q18 RX18 RY18 GF18 GG18
  clear RX19
  clear RY19
  obtain ⟨y0, y1, y2, y3, y4, y5, y6, y7⟩ := G19.out.cells
  simp only at y1 y2 y3 y4 y5 y6 y7
  obtain ⟨x0, x1, x2, x3, x4, x5, x6⟩ := Q19.out.cells
  obtain ⟨z0, z1, z2, z3, z4, z5, z6, z7⟩ := GF19.out.cells
  simp only at z1 z2 z3 z4 z5 z6 z7
  obtain ⟨t0, t1, t2, t3, t4, t5, t6, t7⟩ := GG19.out.cells
  simp only at t1 t2 t3 t4 t5 t6 t7
  go_upto_region 16 with fail
  clear y0 y1 y2 y3 y4 y5 y6 y7 x0 x1 x2 x3 x4 x5 x6 z0 z1 z2 z3 z4 z5 z6 z7 t0 t1 t2 t3 t4 t5 t6 t7
  clear GF19
  clear GG19
  clear ee ef hfs CW RW CF RF HNR HL6
  go_cut [31, 32] (fun s31 s32 w' => ∃ X, s31 = .pointer (some ⟨X, 0, none⟩) ∧ s32 = .int .i64 e1 ∧ Hid (OAt w' X ⟨a0, a1, a2, a3, a4, a5, a6, a7, a8⟩ (.slice none 0 0)) ∧ Hid (Below w19.heap.size w19 w'))
  case first =>
    clear AL RP CD RD CM RM
    refine wp_region_held_drew (S := fun W => Below w19.heap.size w19 W ∧ True) (by kernel_rfl) (⟨(Below.refl _ _).drew, trivial⟩) (fun hHeld => ?_)
    generalize w19.drew = v0 at *
    refine wpAnyH_take (i := 0) (oi := { dst := some 157, op := Go.Op.load 26 (Go.Operand.tmp 15), type := 26, pos := "law.go:107", after := #[], guard := none }) (v := ?_) rfl (by kernel_rfl) (by kernel_rfl) (by kernel_rfl) (fun _ _ _ h => h) (Or.inl ⟨by rfl, ?_⟩) hHeld ?_
    rotate_left
    · (intro w hSw; obtain ⟨x0, x1, x2, x3, x4, x5, x6⟩ := (Q19.out.below hSw.1).cells; go_simp <;> with_reducible rfl)
    simp only [Act.put, List.setIfInBounds_toArray, List.set_cons_zero, List.set_cons_succ]
    refine wpAnyH_take (i := 2) (oi := { dst := some 159, op := Go.Op.load 83 (Go.Operand.tmp 10), type := 83, pos := "law.go:107", after := #[], guard := none }) (v := ?_) rfl (by kernel_rfl) (by kernel_rfl) (by kernel_rfl) (fun _ _ _ h => h) (Or.inl ⟨by rfl, ?_⟩) hHeld ?_
    rotate_left
    · (intro w hSw; obtain ⟨y0, y1, y2, y3, y4, y5, y6, y7⟩ := (G19.out.below hSw.1).cells; simp only at y1 y2 y3 y4 y5 y6 y7; go_simp <;> with_reducible rfl)
    simp only [Act.put, List.setIfInBounds_toArray, List.set_cons_zero, List.set_cons_succ]
    refine wpAnyH_ready (rs := [1, 7]) (by kernel_rfl) (by simp) (AllReadyH.cons (o := { dst := some 158, op := Go.Op.call { callee := Go.Callee.value (Go.Operand.func 65), args := #[Go.Operand.tmp 157], argTypes := #[26] }, type := 26, pos := "law.go:107", after := #[{ on := 0, ground := Go.Ground.data }], guard := none }) rfl (fun K hK => ?_) (AllReadyH.cons (o := { dst := some 31, op := Go.Op.alloc 28, type := 0, pos := "law.go:107", after := #[], guard := none }) rfl (fun K hK => ?_) AllReadyH.nil))
    · go_simp
      refine (CC.out _ (U19.out.below hHeld.1)).mono ?_
      rintro e v1 ⟨svc, rfl, GG, hb⟩
      (try simp only at GG)
      have DC := Lib.hid GG
      obtain ⟨DA, dcp, hdv, _, _, _, _⟩ := GG
      rw [← HNQ.out] at hdv
      subst hdv
      have hS1 := Lib.hid (And.intro (below_then hHeld.1 hb) trivial)
      clear hb hHeld
      refine hK.out _ _ ?_ (fun hHeld => ?_)
      · exact hS1.out
      clear hK K
      (try simp only [Act.put, List.setIfInBounds_toArray, List.set_cons_zero, List.set_cons_succ])
      refine wpAnyH_ready (rs := [3, 7]) (by kernel_rfl) (by simp) (AllReadyH.cons (o := { dst := some 160, op := Go.Op.call { callee := Go.Callee.value (Go.Operand.func 70), args := #[Go.Operand.tmp 158, Go.Operand.tmp 159], argTypes := #[26, 83] }, type := 48, pos := "law.go:107", after := #[{ on := 1, ground := Go.Ground.data }, { on := 2, ground := Go.Ground.data }, { on := 1, ground := Go.Ground.chain }], guard := none }) rfl (fun K hK => ?_) (AllReadyH.cons (o := { dst := some 31, op := Go.Op.alloc 28, type := 0, pos := "law.go:107", after := #[], guard := none }) rfl (fun K hK => ?_) AllReadyH.nil))
      · go_simp
        refine (CP.out _ _ DC.out).mono ?_
        rintro e v2 ⟨rfl, hb⟩
        have hS2 := Lib.hid (And.intro (below_then hHeld.1 hb) trivial)
        clear hb hHeld
        refine hK.out _ _ ?_ (fun hHeld => ?_)
        · exact hS2.out
        clear hK K
        (try simp only [Act.put, List.setIfInBounds_toArray, List.set_cons_zero, List.set_cons_succ])
        refine wpAnyH_take (i := 4) (oi := { dst := some 156, op := Go.Op.move (Go.Operand.tmp 160), type := 48, pos := "law.go:107", after := #[{ on := 3, ground := Go.Ground.data }], guard := none }) (v := ?_) rfl (by kernel_rfl) (by kernel_rfl) (by kernel_rfl) (fun _ _ _ h => h) (Or.inl ⟨by rfl, ?_⟩) hHeld ?_
        rotate_left
        · (intro w hSw; go_simp <;> with_reducible rfl)
        simp only [Act.put, List.setIfInBounds_toArray, List.set_cons_zero, List.set_cons_succ]
        refine wpAnyH_take (i := 5) (oi := { dst := some 161, op := Go.Op.extract (Go.Operand.tmp 156) 0, type := 28, pos := "law.go:107", after := #[{ on := 4, ground := Go.Ground.data }], guard := none }) (v := ?_) rfl (by kernel_rfl) (by kernel_rfl) (by kernel_rfl) (fun _ _ _ h => h) (Or.inl ⟨by rfl, ?_⟩) hHeld ?_
        rotate_left
        · (intro w hSw; go_simp <;> with_reducible rfl)
        simp only [Act.put, List.setIfInBounds_toArray, List.set_cons_zero, List.set_cons_succ]
        refine wpAnyH_take (i := 6) (oi := { dst := some 162, op := Go.Op.extract (Go.Operand.tmp 156) 1, type := 34, pos := "law.go:107", after := #[{ on := 4, ground := Go.Ground.data }, { on := 8, ground := Go.Ground.gcOnly Go.Departure.lateStores }], guard := none }) (v := ?_) rfl (by kernel_rfl) (by kernel_rfl) (by kernel_rfl) (fun _ _ _ h => h) (Or.inl ⟨by rfl, ?_⟩) hHeld ?_
        rotate_left
        · (intro w hSw; go_simp <;> with_reducible rfl)
        simp only [Act.put, List.setIfInBounds_toArray, List.set_cons_zero, List.set_cons_succ]
        refine wpAnyH_ready (rs := [7]) (by kernel_rfl) (by simp) (AllReadyH.cons (o := { dst := some 31, op := Go.Op.alloc 28, type := 0, pos := "law.go:107", after := #[], guard := none }) rfl (fun K hK => ?_) AllReadyH.nil)
        · go_simp
          have ZZ : Hid (OAt (v2.alloc (.cells #[.int .u8 0, .int .u32 0, .int .i64 0, .int .i64 0, .string ⟨#[]⟩, .slice none 0 0, .int .u8 0, .int .u8 0, .int .u32 0] 28)) v2.heap.size Od.zero (.slice none 0 0)) := OAt.new v2 Od.zero (.slice none 0 0)
          have hS3 := Lib.hid (And.intro (below_then hHeld.1 (alloc_below v2 (.cells #[.int .u8 0, .int .u32 0, .int .i64 0, .int .i64 0, .string ⟨#[]⟩, .slice none 0 0, .int .u8 0, .int .u8 0, .int .u32 0] 28))) trivial)
          have hgX : w19.heap.size ≤ v2.heap.size := hHeld.1.size
          obtain ⟨X, hX⟩ : ∃ z, z = v2.heap.size := ⟨_, rfl⟩
          rw [← hX] at ZZ hgX ⊢
          generalize v2.alloc (.cells #[.int .u8 0, .int .u32 0, .int .i64 0, .int .i64 0, .string ⟨#[]⟩, .slice none 0 0, .int .u8 0, .int .u8 0, .int .u32 0] 28) = v3 at *
          clear hX hHeld
          refine hK.out _ _ ?_ (fun hHeld => ?_)
          · exact hS3.out
          clear hK K
          (try simp only [Act.put, List.setIfInBounds_toArray, List.set_cons_zero, List.set_cons_succ])
          refine wpAnyH_ready (rs := [8]) (by kernel_rfl) (by simp) (AllReadyH.cons (o := { dst := none, op := Go.Op.store 28 (Go.Operand.tmp 31) (Go.Operand.tmp 161), type := 0, pos := "law.go:107", after := #[{ on := 7, ground := Go.Ground.data }, { on := 5, ground := Go.Ground.data }, { on := 3, ground := Go.Ground.chain }, { on := 0, ground := Go.Ground.phase }, { on := 1, ground := Go.Ground.phase }, { on := 2, ground := Go.Ground.phase }, { on := 3, ground := Go.Ground.phase }, { on := 4, ground := Go.Ground.phase }, { on := 5, ground := Go.Ground.phase }, { on := 6, ground := Go.Ground.textOnly Go.Departure.lateStores }, { on := 7, ground := Go.Ground.phase }], guard := none }) rfl (fun K hK => ?_) AllReadyH.nil)
          · refine step_store_op rfl (.tmp 31) (.tmp 161) rfl ZZ.out ⟨a0, a1, a2, a3, a4, a5, a6, a7, a8⟩ none 0 0 (by rfl) (by rfl) ?_
            intro v4 hOq hKq
            have OS := Lib.hid hOq
            have hS4 := Lib.hid (And.intro (OthersKept.below hHeld.1 hKq (fun k hk e => by omega)) trivial)
            clear hOq hKq hHeld
            refine hK.out _ _ ?_ (fun hHeld => ?_)
            · exact hS4.out
            clear hK K
            (try simp only [Act.put, List.setIfInBounds_toArray, List.set_cons_zero, List.set_cons_succ])
            refine wpAnyH_take (i := 9) (oi := { dst := some 32, op := Go.Op.assign (Go.Operand.tmp 162), type := 34, pos := "law.go:107", after := #[{ on := 6, ground := Go.Ground.data }, { on := 8, ground := Go.Ground.chain }, { on := 0, ground := Go.Ground.phase }, { on := 1, ground := Go.Ground.phase }, { on := 2, ground := Go.Ground.phase }, { on := 3, ground := Go.Ground.phase }, { on := 4, ground := Go.Ground.phase }, { on := 5, ground := Go.Ground.phase }, { on := 6, ground := Go.Ground.phase }, { on := 7, ground := Go.Ground.phase }, { on := 8, ground := Go.Ground.phase }], guard := none }) (v := ?_) rfl (by kernel_rfl) (by kernel_rfl) (by kernel_rfl) (fun _ _ _ h => h) (Or.inl ⟨by rfl, ?_⟩) hHeld ?_
            rotate_left
            · (intro w hSw; go_simp <;> with_reducible rfl)
            simp only [Act.put, List.setIfInBounds_toArray, List.set_cons_zero, List.set_cons_succ]
            refine wpAnyH_done (by kernel_rfl) ?_ _
            go_wp2_with fail
            go_meet
            exact ⟨X, rfl, rfl, OS, Lib.hid hHeld.1⟩
      · go_simp
        have ZZ : Hid (OAt (v1.alloc (.cells #[.int .u8 0, .int .u32 0, .int .i64 0, .int .i64 0, .string ⟨#[]⟩, .slice none 0 0, .int .u8 0, .int .u8 0, .int .u32 0] 28)) v1.heap.size Od.zero (.slice none 0 0)) := OAt.new v1 Od.zero (.slice none 0 0)
        have hS2 := Lib.hid (And.intro (below_then hHeld.1 (alloc_below v1 (.cells #[.int .u8 0, .int .u32 0, .int .i64 0, .int .i64 0, .string ⟨#[]⟩, .slice none 0 0, .int .u8 0, .int .u8 0, .int .u32 0] 28))) trivial)
        have hgX : w19.heap.size ≤ v1.heap.size := hHeld.1.size
        obtain ⟨X, hX⟩ : ∃ z, z = v1.heap.size := ⟨_, rfl⟩
        have DC := Lib.hid (DC.out.below (alloc_below v1 (.cells #[.int .u8 0, .int .u32 0, .int .i64 0, .int .i64 0, .string ⟨#[]⟩, .slice none 0 0, .int .u8 0, .int .u8 0, .int .u32 0] 28)))
        rw [← hX] at ZZ hgX ⊢
        generalize v1.alloc (.cells #[.int .u8 0, .int .u32 0, .int .i64 0, .int .i64 0, .string ⟨#[]⟩, .slice none 0 0, .int .u8 0, .int .u8 0, .int .u32 0] 28) = v2 at *
        clear hX hHeld
        refine hK.out _ _ ?_ (fun hHeld => ?_)
        · exact hS2.out
        clear hK K
        (try simp only [Act.put, List.setIfInBounds_toArray, List.set_cons_zero, List.set_cons_succ])
        refine wpAnyH_ready (rs := [3]) (by kernel_rfl) (by simp) (AllReadyH.cons (o := { dst := some 160, op := Go.Op.call { callee := Go.Callee.value (Go.Operand.func 70), args := #[Go.Operand.tmp 158, Go.Operand.tmp 159], argTypes := #[26, 83] }, type := 48, pos := "law.go:107", after := #[{ on := 1, ground := Go.Ground.data }, { on := 2, ground := Go.Ground.data }, { on := 1, ground := Go.Ground.chain }], guard := none }) rfl (fun K hK => ?_) AllReadyH.nil)
        · go_simp
          refine (CP.out _ _ DC.out).mono ?_
          rintro e v3 ⟨rfl, hb⟩
          have hS3 := Lib.hid (And.intro (below_then hHeld.1 hb) trivial)
          have ZZ := Lib.hid (ZZ.out.under hb)
          clear hb hHeld
          refine hK.out _ _ ?_ (fun hHeld => ?_)
          · exact hS3.out
          clear hK K
          (try simp only [Act.put, List.setIfInBounds_toArray, List.set_cons_zero, List.set_cons_succ])
          refine wpAnyH_take (i := 4) (oi := { dst := some 156, op := Go.Op.move (Go.Operand.tmp 160), type := 48, pos := "law.go:107", after := #[{ on := 3, ground := Go.Ground.data }], guard := none }) (v := ?_) rfl (by kernel_rfl) (by kernel_rfl) (by kernel_rfl) (fun _ _ _ h => h) (Or.inl ⟨by rfl, ?_⟩) hHeld ?_
          rotate_left
          · (intro w hSw; go_simp <;> with_reducible rfl)
          simp only [Act.put, List.setIfInBounds_toArray, List.set_cons_zero, List.set_cons_succ]
          refine wpAnyH_take (i := 5) (oi := { dst := some 161, op := Go.Op.extract (Go.Operand.tmp 156) 0, type := 28, pos := "law.go:107", after := #[{ on := 4, ground := Go.Ground.data }], guard := none }) (v := ?_) rfl (by kernel_rfl) (by kernel_rfl) (by kernel_rfl) (fun _ _ _ h => h) (Or.inl ⟨by rfl, ?_⟩) hHeld ?_
          rotate_left
          · (intro w hSw; go_simp <;> with_reducible rfl)
          simp only [Act.put, List.setIfInBounds_toArray, List.set_cons_zero, List.set_cons_succ]
          refine wpAnyH_take (i := 6) (oi := { dst := some 162, op := Go.Op.extract (Go.Operand.tmp 156) 1, type := 34, pos := "law.go:107", after := #[{ on := 4, ground := Go.Ground.data }, { on := 8, ground := Go.Ground.gcOnly Go.Departure.lateStores }], guard := none }) (v := ?_) rfl (by kernel_rfl) (by kernel_rfl) (by kernel_rfl) (fun _ _ _ h => h) (Or.inl ⟨by rfl, ?_⟩) hHeld ?_
          rotate_left
          · (intro w hSw; go_simp <;> with_reducible rfl)
          simp only [Act.put, List.setIfInBounds_toArray, List.set_cons_zero, List.set_cons_succ]
          refine wpAnyH_ready (rs := [8]) (by kernel_rfl) (by simp) (AllReadyH.cons (o := { dst := none, op := Go.Op.store 28 (Go.Operand.tmp 31) (Go.Operand.tmp 161), type := 0, pos := "law.go:107", after := #[{ on := 7, ground := Go.Ground.data }, { on := 5, ground := Go.Ground.data }, { on := 3, ground := Go.Ground.chain }, { on := 0, ground := Go.Ground.phase }, { on := 1, ground := Go.Ground.phase }, { on := 2, ground := Go.Ground.phase }, { on := 3, ground := Go.Ground.phase }, { on := 4, ground := Go.Ground.phase }, { on := 5, ground := Go.Ground.phase }, { on := 6, ground := Go.Ground.textOnly Go.Departure.lateStores }, { on := 7, ground := Go.Ground.phase }], guard := none }) rfl (fun K hK => ?_) AllReadyH.nil)
          · refine step_store_op rfl (.tmp 31) (.tmp 161) rfl ZZ.out ⟨a0, a1, a2, a3, a4, a5, a6, a7, a8⟩ none 0 0 (by rfl) (by rfl) ?_
            intro v4 hOq hKq
            have OS := Lib.hid hOq
            have hS4 := Lib.hid (And.intro (OthersKept.below hHeld.1 hKq (fun k hk e => by omega)) trivial)
            clear hOq hKq hHeld
            refine hK.out _ _ ?_ (fun hHeld => ?_)
            · exact hS4.out
            clear hK K
            (try simp only [Act.put, List.setIfInBounds_toArray, List.set_cons_zero, List.set_cons_succ])
            refine wpAnyH_take (i := 9) (oi := { dst := some 32, op := Go.Op.assign (Go.Operand.tmp 162), type := 34, pos := "law.go:107", after := #[{ on := 6, ground := Go.Ground.data }, { on := 8, ground := Go.Ground.chain }, { on := 0, ground := Go.Ground.phase }, { on := 1, ground := Go.Ground.phase }, { on := 2, ground := Go.Ground.phase }, { on := 3, ground := Go.Ground.phase }, { on := 4, ground := Go.Ground.phase }, { on := 5, ground := Go.Ground.phase }, { on := 6, ground := Go.Ground.phase }, { on := 7, ground := Go.Ground.phase }, { on := 8, ground := Go.Ground.phase }], guard := none }) (v := ?_) rfl (by kernel_rfl) (by kernel_rfl) (by kernel_rfl) (fun _ _ _ h => h) (Or.inl ⟨by rfl, ?_⟩) hHeld ?_
            rotate_left
            · (intro w hSw; go_simp <;> with_reducible rfl)
            simp only [Act.put, List.setIfInBounds_toArray, List.set_cons_zero, List.set_cons_succ]
            refine wpAnyH_done (by kernel_rfl) ?_ _
            go_wp2_with fail
            go_meet
            exact ⟨X, rfl, rfl, OS, Lib.hid hHeld.1⟩
    · go_simp
      have ZZ : Hid (OAt (v0.alloc (.cells #[.int .u8 0, .int .u32 0, .int .i64 0, .int .i64 0, .string ⟨#[]⟩, .slice none 0 0, .int .u8 0, .int .u8 0, .int .u32 0] 28)) v0.heap.size Od.zero (.slice none 0 0)) := OAt.new v0 Od.zero (.slice none 0 0)
      have hS1 := Lib.hid (And.intro (below_then hHeld.1 (alloc_below v0 (.cells #[.int .u8 0, .int .u32 0, .int .i64 0, .int .i64 0, .string ⟨#[]⟩, .slice none 0 0, .int .u8 0, .int .u8 0, .int .u32 0] 28))) trivial)
      have hgX : w19.heap.size ≤ v0.heap.size := hHeld.1.size
      obtain ⟨X, hX⟩ : ∃ z, z = v0.heap.size := ⟨_, rfl⟩
      rw [← hX] at ZZ hgX ⊢
      generalize v0.alloc (.cells #[.int .u8 0, .int .u32 0, .int .i64 0, .int .i64 0, .string ⟨#[]⟩, .slice none 0 0, .int .u8 0, .int .u8 0, .int .u32 0] 28) = v1 at *
      clear hX hHeld
      refine hK.out _ _ ?_ (fun hHeld => ?_)
      · exact hS1.out
      clear hK K
      (try simp only [Act.put, List.setIfInBounds_toArray, List.set_cons_zero, List.set_cons_succ])
      refine wpAnyH_ready (rs := [1]) (by kernel_rfl) (by simp) (AllReadyH.cons (o := { dst := some 158, op := Go.Op.call { callee := Go.Callee.value (Go.Operand.func 65), args := #[Go.Operand.tmp 157], argTypes := #[26] }, type := 26, pos := "law.go:107", after := #[{ on := 0, ground := Go.Ground.data }], guard := none }) rfl (fun K hK => ?_) AllReadyH.nil)
      · go_simp
        refine (CC.out _ (U19.out.below hHeld.1)).mono ?_
        rintro e v2 ⟨svc, rfl, GG, hb⟩
        (try simp only at GG)
        have DC := Lib.hid GG
        obtain ⟨DA, dcp, hdv, _, _, _, _⟩ := GG
        rw [← HNQ.out] at hdv
        subst hdv
        have hS2 := Lib.hid (And.intro (below_then hHeld.1 hb) trivial)
        have ZZ := Lib.hid (ZZ.out.under hb)
        clear hb hHeld
        refine hK.out _ _ ?_ (fun hHeld => ?_)
        · exact hS2.out
        clear hK K
        (try simp only [Act.put, List.setIfInBounds_toArray, List.set_cons_zero, List.set_cons_succ])
        refine wpAnyH_ready (rs := [3]) (by kernel_rfl) (by simp) (AllReadyH.cons (o := { dst := some 160, op := Go.Op.call { callee := Go.Callee.value (Go.Operand.func 70), args := #[Go.Operand.tmp 158, Go.Operand.tmp 159], argTypes := #[26, 83] }, type := 48, pos := "law.go:107", after := #[{ on := 1, ground := Go.Ground.data }, { on := 2, ground := Go.Ground.data }, { on := 1, ground := Go.Ground.chain }], guard := none }) rfl (fun K hK => ?_) AllReadyH.nil)
        · go_simp
          refine (CP.out _ _ DC.out).mono ?_
          rintro e v3 ⟨rfl, hb⟩
          have hS3 := Lib.hid (And.intro (below_then hHeld.1 hb) trivial)
          have ZZ := Lib.hid (ZZ.out.under hb)
          clear hb hHeld
          refine hK.out _ _ ?_ (fun hHeld => ?_)
          · exact hS3.out
          clear hK K
          (try simp only [Act.put, List.setIfInBounds_toArray, List.set_cons_zero, List.set_cons_succ])
          refine wpAnyH_take (i := 4) (oi := { dst := some 156, op := Go.Op.move (Go.Operand.tmp 160), type := 48, pos := "law.go:107", after := #[{ on := 3, ground := Go.Ground.data }], guard := none }) (v := ?_) rfl (by kernel_rfl) (by kernel_rfl) (by kernel_rfl) (fun _ _ _ h => h) (Or.inl ⟨by rfl, ?_⟩) hHeld ?_
          rotate_left
          · (intro w hSw; go_simp <;> with_reducible rfl)
          simp only [Act.put, List.setIfInBounds_toArray, List.set_cons_zero, List.set_cons_succ]
          refine wpAnyH_take (i := 5) (oi := { dst := some 161, op := Go.Op.extract (Go.Operand.tmp 156) 0, type := 28, pos := "law.go:107", after := #[{ on := 4, ground := Go.Ground.data }], guard := none }) (v := ?_) rfl (by kernel_rfl) (by kernel_rfl) (by kernel_rfl) (fun _ _ _ h => h) (Or.inl ⟨by rfl, ?_⟩) hHeld ?_
          rotate_left
          · (intro w hSw; go_simp <;> with_reducible rfl)
          simp only [Act.put, List.setIfInBounds_toArray, List.set_cons_zero, List.set_cons_succ]
          refine wpAnyH_take (i := 6) (oi := { dst := some 162, op := Go.Op.extract (Go.Operand.tmp 156) 1, type := 34, pos := "law.go:107", after := #[{ on := 4, ground := Go.Ground.data }, { on := 8, ground := Go.Ground.gcOnly Go.Departure.lateStores }], guard := none }) (v := ?_) rfl (by kernel_rfl) (by kernel_rfl) (by kernel_rfl) (fun _ _ _ h => h) (Or.inl ⟨by rfl, ?_⟩) hHeld ?_
          rotate_left
          · (intro w hSw; go_simp <;> with_reducible rfl)
          simp only [Act.put, List.setIfInBounds_toArray, List.set_cons_zero, List.set_cons_succ]
          refine wpAnyH_ready (rs := [8]) (by kernel_rfl) (by simp) (AllReadyH.cons (o := { dst := none, op := Go.Op.store 28 (Go.Operand.tmp 31) (Go.Operand.tmp 161), type := 0, pos := "law.go:107", after := #[{ on := 7, ground := Go.Ground.data }, { on := 5, ground := Go.Ground.data }, { on := 3, ground := Go.Ground.chain }, { on := 0, ground := Go.Ground.phase }, { on := 1, ground := Go.Ground.phase }, { on := 2, ground := Go.Ground.phase }, { on := 3, ground := Go.Ground.phase }, { on := 4, ground := Go.Ground.phase }, { on := 5, ground := Go.Ground.phase }, { on := 6, ground := Go.Ground.textOnly Go.Departure.lateStores }, { on := 7, ground := Go.Ground.phase }], guard := none }) rfl (fun K hK => ?_) AllReadyH.nil)
          · refine step_store_op rfl (.tmp 31) (.tmp 161) rfl ZZ.out ⟨a0, a1, a2, a3, a4, a5, a6, a7, a8⟩ none 0 0 (by rfl) (by rfl) ?_
            intro v4 hOq hKq
            have OS := Lib.hid hOq
            have hS4 := Lib.hid (And.intro (OthersKept.below hHeld.1 hKq (fun k hk e => by omega)) trivial)
            clear hOq hKq hHeld
            refine hK.out _ _ ?_ (fun hHeld => ?_)
            · exact hS4.out
            clear hK K
            (try simp only [Act.put, List.setIfInBounds_toArray, List.set_cons_zero, List.set_cons_succ])
            refine wpAnyH_take (i := 9) (oi := { dst := some 32, op := Go.Op.assign (Go.Operand.tmp 162), type := 34, pos := "law.go:107", after := #[{ on := 6, ground := Go.Ground.data }, { on := 8, ground := Go.Ground.chain }, { on := 0, ground := Go.Ground.phase }, { on := 1, ground := Go.Ground.phase }, { on := 2, ground := Go.Ground.phase }, { on := 3, ground := Go.Ground.phase }, { on := 4, ground := Go.Ground.phase }, { on := 5, ground := Go.Ground.phase }, { on := 6, ground := Go.Ground.phase }, { on := 7, ground := Go.Ground.phase }, { on := 8, ground := Go.Ground.phase }], guard := none }) (v := ?_) rfl (by kernel_rfl) (by kernel_rfl) (by kernel_rfl) (fun _ _ _ h => h) (Or.inl ⟨by rfl, ?_⟩) hHeld ?_
            rotate_left
            · (intro w hSw; go_simp <;> with_reducible rfl)
            simp only [Act.put, List.setIfInBounds_toArray, List.set_cons_zero, List.set_cons_succ]
            refine wpAnyH_done (by kernel_rfl) ?_ _
            go_wp2_with fail
            go_meet
            exact ⟨X, rfl, rfl, OS, Lib.hid hHeld.1⟩
  case rest =>
  obtain ⟨gA, rfl, rfl, OA19, hbc⟩ := hcut
  generalize wc = w20 at *
  have hb := hbc.out
  have OA20 := OA19
  clear hbc CP OA19
  have B20 := Lib.hid (below_then B19.out hb)
  have G20 := Lib.hid (G19.out.below hb)
  have U20 := Lib.hid (U19.out.below hb)
  have Q20 := Lib.hid (Q19.out.below hb)
  clear hb B19 G19 U19 Q19
  obtain ⟨y0, y1, y2, y3, y4, y5, y6, y7⟩ := G20.out.cells
  simp only at y1 y2 y3 y4 y5 y6 y7
  obtain ⟨x0, x1, x2, x3, x4, x5, x6⟩ := Q20.out.cells
  go_wp2_with fail
  clear y0 y1 y2 y3 y4 y5 y6 y7 x0 x1 x2 x3 x4 x5 x6
  refine (RP.out _ U20.out).mono ?_
  rintro e w21 ⟨rfl, hb⟩
  have B21 := Lib.hid (below_then B20.out hb)
  have G21 := Lib.hid (G20.out.below hb)
  have U21 := Lib.hid (U20.out.below hb)
  have Q21 := Lib.hid (Q20.out.below hb)
  have OA21 := Lib.hid (OA20.out.below hb)
  clear hb B20 G20 U20 Q20 OA20
  obtain ⟨y0, y1, y2, y3, y4, y5, y6, y7⟩ := G21.out.cells
  simp only at y1 y2 y3 y4 y5 y6 y7
  obtain ⟨x0, x1, x2, x3, x4, x5, x6⟩ := Q21.out.cells
  (try unfold odV)
  (try simp only)
  go_upto_region 18 with fail
  clear y0 y1 y2 y3 y4 y5 y6 y7 x0 x1 x2 x3 x4 x5 x6
  have BN := Lib.hid (alloc_below w21 (.cells #[.int .u8 a0, .int .u32 a1, .int .i64 a2, .int .i64 a3, .string ⟨a4.toArray⟩, .slice none 0 0, .int .u8 a6, .int .u8 a7, .int .u32 a8] 28))
  have OB22 := Lib.hid (OAt.new w21 ⟨a0, a1, a2, a3, a4, a5, a6, a7, a8⟩ (.slice none 0 0))
  generalize w21.alloc (.cells #[.int .u8 a0, .int .u32 a1, .int .i64 a2, .int .i64 a3, .string ⟨a4.toArray⟩, .slice none 0 0, .int .u8 a6, .int .u8 a7, .int .u32 a8] 28) = w22 at *
  have hb := BN.out
  clear BN
  have B22 := Lib.hid (below_then B21.out hb)
  have G22 := Lib.hid (G21.out.below hb)
  have U22 := Lib.hid (U21.out.below hb)
  have Q22 := Lib.hid (Q21.out.below hb)
  have OA22 := Lib.hid (OA21.out.below hb)
  clear hb B21 G21 U21 Q21 OA21
  clear G22
  clear RP
  obtain ⟨x0, x1, x2, x3, x4, x5, x6⟩ := Q22.out.cells
  go_wp2_with fail
  clear x0 x1 x2 x3 x4 x5 x6
  refine (CC.out _ U22.out).mono ?_
  rintro e w23 ⟨sv23, rfl, GG, hb⟩
  (try simp only at GG)
  have D23 := Lib.hid GG
  obtain ⟨DA23, dcp23, hdv23, _, _, _, _⟩ := GG
  rw [← HNQ.out] at hdv23
  subst hdv23
  have B23 := Lib.hid (below_then B22.out hb)
  have U23 := Lib.hid (U22.out.below hb)
  have Q23 := Lib.hid (Q22.out.below hb)
  have OA23 := Lib.hid (OA22.out.below hb)
  have OB23 := Lib.hid (OB22.out.below hb)
  clear hb B22 U22 Q22 OA22 OB22
  obtain ⟨x0, x1, x2, x3, x4, x5, x6⟩ := Q23.out.cells
  go_wp2_with fail
  clear x0 x1 x2 x3 x4 x5 x6
  refine (CD.out _ _ D23.out).mono ?_
  rintro e w24 ⟨rfl, hb⟩
  have B24 := Lib.hid (below_then B23.out hb)
  have U24 := Lib.hid (U23.out.below hb)
  have Q24 := Lib.hid (Q23.out.below hb)
  have OA24 := Lib.hid (OA23.out.below hb)
  have OB24 := Lib.hid (OB23.out.below hb)
  clear hb B23 U23 Q23 OA23 OB23
  obtain ⟨x0, x1, x2, x3, x4, x5, x6⟩ := Q24.out.cells
  (try unfold odV)
  (try simp only)
  go_upto_region 19 with fail
  clear x0 x1 x2 x3 x4 x5 x6
  have BN := Lib.hid (alloc_below w24 (.cells #[.int .u8 b0, .int .u32 b1, .int .i64 b2, .int .i64 b3, .string ⟨b4.toArray⟩, .slice none 0 0, .int .u8 b6, .int .u8 b7, .int .u32 b8] 28))
  have OC25 := Lib.hid (OAt.new w24 ⟨b0, b1, b2, b3, b4, b5, b6, b7, b8⟩ (.slice none 0 0))
  generalize w24.alloc (.cells #[.int .u8 b0, .int .u32 b1, .int .i64 b2, .int .i64 b3, .string ⟨b4.toArray⟩, .slice none 0 0, .int .u8 b6, .int .u8 b7, .int .u32 b8] 28) = w25 at *
  have hb := BN.out
  clear BN
  have B25 := Lib.hid (below_then B24.out hb)
  have U25 := Lib.hid (U24.out.below hb)
  have Q25 := Lib.hid (Q24.out.below hb)
  have OA25 := Lib.hid (OA24.out.below hb)
  have OB25 := Lib.hid (OB24.out.below hb)
  clear hb B24 U24 Q24 OA24 OB24
  obtain ⟨x0, x1, x2, x3, x4, x5, x6⟩ := Q25.out.cells
  go_wp2_with fail
  clear x0 x1 x2 x3 x4 x5 x6
  refine (RD.out _ U25.out).mono ?_
  rintro e w26 ⟨rfl, hb⟩
  have B26 := Lib.hid (below_then B25.out hb)
  have U26 := Lib.hid (U25.out.below hb)
  have Q26 := Lib.hid (Q25.out.below hb)
  have OA26 := Lib.hid (OA25.out.below hb)
  have OB26 := Lib.hid (OB25.out.below hb)
  have OC26 := Lib.hid (OC25.out.below hb)
  clear hb B25 U25 Q25 OA25 OB25 OC25
  obtain ⟨x0, x1, x2, x3, x4, x5, x6⟩ := Q26.out.cells
  (try unfold odV)
  (try simp only)
  go_upto_region 20 with fail
  clear x0 x1 x2 x3 x4 x5 x6
  have BN := Lib.hid (alloc_below w26 (.cells #[.int .u8 b0, .int .u32 b1, .int .i64 b2, .int .i64 b3, .string ⟨b4.toArray⟩, .slice none 0 0, .int .u8 b6, .int .u8 b7, .int .u32 b8] 28))
  have OD27 := Lib.hid (OAt.new w26 ⟨b0, b1, b2, b3, b4, b5, b6, b7, b8⟩ (.slice none 0 0))
  generalize w26.alloc (.cells #[.int .u8 b0, .int .u32 b1, .int .i64 b2, .int .i64 b3, .string ⟨b4.toArray⟩, .slice none 0 0, .int .u8 b6, .int .u8 b7, .int .u32 b8] 28) = w27 at *
  have hb := BN.out
  clear BN
  have B27 := Lib.hid (below_then B26.out hb)
  have U27 := Lib.hid (U26.out.below hb)
  have Q27 := Lib.hid (Q26.out.below hb)
  have OA27 := Lib.hid (OA26.out.below hb)
  have OB27 := Lib.hid (OB26.out.below hb)
  have OC27 := Lib.hid (OC26.out.below hb)
  clear hb B26 U26 Q26 OA26 OB26 OC26
  clear CD RD
  obtain ⟨x0, x1, x2, x3, x4, x5, x6⟩ := Q27.out.cells
  go_wp2_with fail
  clear x0 x1 x2 x3 x4 x5 x6
  refine (CC.out _ U27.out).mono ?_
  rintro e w28 ⟨sv28, rfl, GG, hb⟩
  (try simp only at GG)
  have D28 := Lib.hid GG
  obtain ⟨DA28, dcp28, hdv28, _, _, _, _⟩ := GG
  rw [← HNQ.out] at hdv28
  subst hdv28
  have B28 := Lib.hid (below_then B27.out hb)
  have U28 := Lib.hid (U27.out.below hb)
  have Q28 := Lib.hid (Q27.out.below hb)
  have OA28 := Lib.hid (OA27.out.below hb)
  have OB28 := Lib.hid (OB27.out.below hb)
  have OC28 := Lib.hid (OC27.out.below hb)
  have OD28 := Lib.hid (OD27.out.below hb)
  clear hb B27 U27 Q27 OA27 OB27 OC27 OD27
  obtain ⟨x0, x1, x2, x3, x4, x5, x6⟩ := Q28.out.cells
  go_wp2_with fail
  clear x0 x1 x2 x3 x4 x5 x6
  refine (CM.out _ _ D28.out).mono ?_
  rintro e w29 ⟨rfl, hb⟩
  have B29 := Lib.hid (below_then B28.out hb)
  have U29 := Lib.hid (U28.out.below hb)
  have Q29 := Lib.hid (Q28.out.below hb)
  have OA29 := Lib.hid (OA28.out.below hb)
  have OB29 := Lib.hid (OB28.out.below hb)
  have OC29 := Lib.hid (OC28.out.below hb)
  have OD29 := Lib.hid (OD28.out.below hb)
  clear hb B28 U28 Q28 OA28 OB28 OC28 OD28
  obtain ⟨x0, x1, x2, x3, x4, x5, x6⟩ := Q29.out.cells
  (try unfold odV)
  (try simp only)
  go_upto_region 21 with fail
  clear x0 x1 x2 x3 x4 x5 x6
  have BN := Lib.hid (alloc_below w29 (.cells #[.int .u8 c0, .int .u32 c1, .int .i64 c2, .int .i64 c3, .string ⟨c4.toArray⟩, .slice none 0 0, .int .u8 c6, .int .u8 c7, .int .u32 c8] 28))
  have OE30 := Lib.hid (OAt.new w29 ⟨c0, c1, c2, c3, c4, c5, c6, c7, c8⟩ (.slice none 0 0))
  generalize w29.alloc (.cells #[.int .u8 c0, .int .u32 c1, .int .i64 c2, .int .i64 c3, .string ⟨c4.toArray⟩, .slice none 0 0, .int .u8 c6, .int .u8 c7, .int .u32 c8] 28) = w30 at *
  have hb := BN.out
  clear BN
  have B30 := Lib.hid (below_then B29.out hb)
  have U30 := Lib.hid (U29.out.below hb)
  have Q30 := Lib.hid (Q29.out.below hb)
  have OA30 := Lib.hid (OA29.out.below hb)
  have OB30 := Lib.hid (OB29.out.below hb)
  have OC30 := Lib.hid (OC29.out.below hb)
  have OD30 := Lib.hid (OD29.out.below hb)
  clear hb B29 U29 Q29 OA29 OB29 OC29 OD29
  obtain ⟨x0, x1, x2, x3, x4, x5, x6⟩ := Q30.out.cells
  go_wp2_with fail
  clear x0 x1 x2 x3 x4 x5 x6
  refine (RM.out _ U30.out).mono ?_
  rintro e w31 ⟨rfl, hb⟩
  have B31 := Lib.hid (below_then B30.out hb)
  have U31 := Lib.hid (U30.out.below hb)
  have Q31 := Lib.hid (Q30.out.below hb)
  have OA31 := Lib.hid (OA30.out.below hb)
  have OB31 := Lib.hid (OB30.out.below hb)
  have OC31 := Lib.hid (OC30.out.below hb)
  have OD31 := Lib.hid (OD30.out.below hb)
  have OE31 := Lib.hid (OE30.out.below hb)
  clear hb B30 U30 Q30 OA30 OB30 OC30 OD30 OE30
  obtain ⟨x0, x1, x2, x3, x4, x5, x6⟩ := Q31.out.cells
  (try unfold odV)
  (try simp only)
  go_upto_region 22 with fail
  clear x0 x1 x2 x3 x4 x5 x6
  have BN := Lib.hid (alloc_below w31 (.cells #[.int .u8 c0, .int .u32 c1, .int .i64 c2, .int .i64 c3, .string ⟨c4.toArray⟩, .slice none 0 0, .int .u8 c6, .int .u8 c7, .int .u32 c8] 28))
  have OF32 := Lib.hid (OAt.new w31 ⟨c0, c1, c2, c3, c4, c5, c6, c7, c8⟩ (.slice none 0 0))
  generalize w31.alloc (.cells #[.int .u8 c0, .int .u32 c1, .int .i64 c2, .int .i64 c3, .string ⟨c4.toArray⟩, .slice none 0 0, .int .u8 c6, .int .u8 c7, .int .u32 c8] 28) = w32 at *
  have hb := BN.out
  clear BN
  have B32 := Lib.hid (below_then B31.out hb)
  have U32 := Lib.hid (U31.out.below hb)
  have Q32 := Lib.hid (Q31.out.below hb)
  have OA32 := Lib.hid (OA31.out.below hb)
  have OB32 := Lib.hid (OB31.out.below hb)
  have OC32 := Lib.hid (OC31.out.below hb)
  have OD32 := Lib.hid (OD31.out.below hb)
  have OE32 := Lib.hid (OE31.out.below hb)
  clear hb B31 U31 Q31 OA31 OB31 OC31 OD31 OE31
  clear CM RM CC
  clear Q32
  clear U32
  have SO := Lib.hid fun W => sameOp_any ⟨a0, a1, a2, a3, a4, a5, a6, a7, a8⟩ W
  have SQ := Lib.hid fun W => sameOp_any ⟨b0, b1, b2, b3, b4, b5, b6, b7, b8⟩ W
  have SR := Lib.hid fun W => sameOp_any ⟨c0, c1, c2, c3, c4, c5, c6, c7, c8⟩ W
  (try simp only at SO SQ SR)
  have t1 : (e1 == e1) = true := by simp
  have t2 : (e2 == e2) = true := by simp
  have t3 : (e3 == e3) = true := by simp
  have hx : (tx : Int) % 4 = ((tx % 4 : Nat) : Int) := by omega
  have h4 := Nat.mod_lt tx (show 4 > 0 by omega)
  obtain ⟨rr, hrr⟩ : ∃ r, r = tx % 4 := ⟨_, rfl⟩
  have SX := Lib.hid fun W => of22_any tx W htx
  rw [← hrr] at hx h4 SX
  clear hrr
  have t4 : ((rr : Int) == (rr : Int)) = true := by simp
  obtain ⟨x0, x1, x2, x3, x4, x5, x6, x7, x8⟩ := OA32.out.cells
  simp only at x0 x1 x2 x3 x4 x5 x6 x7 x8
  have x9 := blk_lt OA32.out
  obtain ⟨y0, y1, y2, y3, y4, y5, y6, y7, y8⟩ := OB32.out.cells
  simp only at y0 y1 y2 y3 y4 y5 y6 y7 y8
  have y9 := blk_lt OB32.out
  go_wp2_with fail
  clear x0 x1 x2 x3 x4 x5 x6 x7 x8 x9 y0 y1 y2 y3 y4 y5 y6 y7 y8 y9
  refine (SO.out _).mono ?_
  rintro e w33 ⟨rfl, hb⟩
  have B33 := Lib.hid (below_then B32.out hb)
  have OA33 := Lib.hid (OA32.out.below hb)
  have OB33 := Lib.hid (OB32.out.below hb)
  have OC33 := Lib.hid (OC32.out.below hb)
  have OD33 := Lib.hid (OD32.out.below hb)
  have OE33 := Lib.hid (OE32.out.below hb)
  have OF33 := Lib.hid (OF32.out.below hb)
  clear hb B32 OA32 OB32 OC32 OD32 OE32 OF32
  clear OA33
  clear OB33
  obtain ⟨x0, x1, x2, x3, x4, x5, x6, x7, x8⟩ := OC33.out.cells
  simp only at x0 x1 x2 x3 x4 x5 x6 x7 x8
  have x9 := blk_lt OC33.out
  obtain ⟨y0, y1, y2, y3, y4, y5, y6, y7, y8⟩ := OD33.out.cells
  simp only at y0 y1 y2 y3 y4 y5 y6 y7 y8
  have y9 := blk_lt OD33.out
  go_wp2_with fail
  clear x0 x1 x2 x3 x4 x5 x6 x7 x8 x9 y0 y1 y2 y3 y4 y5 y6 y7 y8 y9
  refine (SQ.out _).mono ?_
  rintro e w34 ⟨rfl, hb⟩
  have B34 := Lib.hid (below_then B33.out hb)
  have OC34 := Lib.hid (OC33.out.below hb)
  have OD34 := Lib.hid (OD33.out.below hb)
  have OE34 := Lib.hid (OE33.out.below hb)
  have OF34 := Lib.hid (OF33.out.below hb)
  clear hb B33 OC33 OD33 OE33 OF33
  clear OC34
  clear OD34
  obtain ⟨x0, x1, x2, x3, x4, x5, x6, x7, x8⟩ := OE34.out.cells
  simp only at x0 x1 x2 x3 x4 x5 x6 x7 x8
  have x9 := blk_lt OE34.out
  obtain ⟨y0, y1, y2, y3, y4, y5, y6, y7, y8⟩ := OF34.out.cells
  simp only at y0 y1 y2 y3 y4 y5 y6 y7 y8
  have y9 := blk_lt OF34.out
  go_wp2_with fail
  clear x0 x1 x2 x3 x4 x5 x6 x7 x8 x9 y0 y1 y2 y3 y4 y5 y6 y7 y8 y9
  refine (SR.out _).mono ?_
  rintro e w35 ⟨rfl, hb⟩
  have B35 := Lib.hid (below_then B34.out hb)
  have OE35 := Lib.hid (OE34.out.below hb)
  have OF35 := Lib.hid (OF34.out.below hb)
  clear hb B34 OE34 OF34
  clear OE35
  clear OF35
  go_wp2_with fail
  refine (SX.out _).mono ?_
  rintro e wx ⟨rfl, rfl⟩
  go_wp2_with fail
  refine (AL.out _).mono ?_
  rintro e wa ⟨rfl, hba⟩
  have Ba := Lib.hid (below_then B35.out hba)
  clear hba
  go_wp2_with fail
  go_ret
  exact ⟨rfl, Ba.out⟩
end Go.Proofs.Ytienlhnbmobinaa
end
