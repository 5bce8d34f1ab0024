/- chapter 16: the walk of SpaceTells -/
import Derived.Test.YtienlhnbmobinaaRows
import Derived.Test.YtienlhnbmobinaaSpaceWorks
import Derived.Test.YtienlhnbmobinaaSpaceNew
import Derived.Test.YtienlhnbmobinaaSpaceRefNew
import Derived.Test.YtienlhnbmobinaaSpaceHelp
import Derived.Test.YtienlhnbmobinaaSpaceRef
import Derived.Test.YtienlhnbmobinaaSpaceIs
import Derived.Test.YtienlhnbmobinaaSpaceOp
import Derived.Test.YtienlhnbmobinaaSpaceNums
import Derived.Test.YtienlhnbmobinaaSpaceAll
import Derived.Test.YtienlhnbmobinaaSpaceFree
import Derived.Test.YtienlhnbmobinaaSpaceCheck
import Derived.Test.YtienlhnbmobinaaOpApply
import Derived.Test.YtienlhnbmobinaaOpDoes
import Derived.Test.YtienlhnbmobinaaOpLaw
import Derived.Test.YtienlhnbmobinaaOpWrite
import Derived.Test.YtienlhnbmobinaaOpSame
import Derived.Test.YtienlhnbmobinaaOpPart
import Derived.Test.YtienlhnbmobinaaSpacePlain
import Derived.Test.YtienlhnbmobinaaOpPlain
import Derived.Test.YtienlhnbmobinaaNodeWeigh
import Derived.Test.YtienlhnbmobinaaPgStore
import Derived.Test.YtienlhnbmobinaaTextsMove
import Derived.Test.YtienlhnbmobinaaPlains
import Derived.Test.YtienlhnbmobinaaBase
import Derived.Test.YtienlhnbmobinaaTextsP
import Derived.Deep.CutBlock
import Derived.WalkKit
import Derived.WalkLawsBesides
import Derived.WalkSpells
import Derived.LoopTactic
import Derived.WalkMore
import Derived.LoopN
import Derived.Laws.BitsAllLaws
import Derived.Laws.IdiomStrings
import Derived.BigQuiet
import Derived.Deep.QuietTactic
import Derived.Deep.DeepCutAuto
import Derived.Deep.RegionHeld3
import Derived.Deep.DrawnRows
import Derived.Lib.Hide
import Derived.Outline
import Derived.Deep.DeepMust
import Derived.Handy
namespace Go.Proofs.Ytienlhnbmobinaa
open Go.RowKit
set_option linter.unusedVariables false
set_option linter.unusedSimpArgs false

theorem count_law (p : Pg) : (chkB p = 0 ∨ chkB p = 60) ∧ (freeL p).length ≤ 1024 ∧ countB p = (if chkB p = 0 then (1024 - (freeL p).length, (freeL p).length) else (0, (freeL p).length)) := by
  refine ⟨?_, free_len p, ?_⟩
  · unfold chkB; split <;> simp
  · unfold chkB countB freeL
    cases h : mapB p
    · simp
    · simp
theorem newB_fine (id : Nat) (pages : Int) (ts : List Nat) (h : id < 256 ^ 4) : (newB id pages ts).1.wf ∧ weightB (newB id pages ts).1.rows ≤ 5000 ∧ (newB id pages ts).1.rows.length ≤ 60 := by
  unfold newB
  split
  · refine ⟨⟨(show 4 < 256 by omega), (show 0 < 256 by omega), h, (show 0 < 256 ^ 8 by omega), (show 0 < 256 ^ 4 by omega)⟩, ?_, by simp⟩
    simp only [weightB_cons, weightB_nil]
    rw [newRow_length]
    omega
  · exact ⟨by unfold Pg.zero Pg.wf; simp, by decide, by decide⟩
set_option maxHeartbeats 8000000 in
set_option maxRecDepth 100000 in
theorem spaceTellsLaw_any (nid : Nat) (pages : Int) (tv : Value) (ts : List Nat) (p : Pg) (sv : Value) (own : Bool) (n0 : Nat) (w : World) (hid : nid < 256 ^ 4) (hpg : -9223372036854775808 ≤ pages ∧ pages ≤ 9223372036854775807) (ht : N32At w tv ts) (hts : ∀ t ∈ ts, t < 256 ^ 4) (hp : p.wf) (hu : TextsAt w sv p.rows) (hz : ∀ r ∈ p.rows, r.length ≤ 140737488351232) (hn0 : n0 < 256 ^ 4) :
    Calls Try.prog 5 #[.int .u32 nid, .int .i64 pages, tv, pgV p sv, .bool own, .int .u32 n0] w fun e w' => e = .returned (.bool true) ∧ Below w.heap.size w w' := by
  have AL := Lib.hid fun W => works16_any W
  have HV := Lib.hid fun W (h : TextsAt W sv p.rows) => heavy16_any p sv W h hz
  have HT := Lib.hid hu
  have HS := Lib.hid ht
  have HP := Lib.hid hp
  have HTS := Lib.hid hts
  obtain ⟨n, hn⟩ : ∃ n, n = p.rows.length := ⟨_, rfl⟩
  obtain ⟨A, cp, hsv, h2, h3, h4, h5⟩ := hu
  rw [← hn] at hsv h2
  subst hsv
  unfold maxLen at h3
  have HN := Lib.hid hn
  clear h4 h5 hn hp hz hts
  obtain ⟨tn, htn⟩ : ∃ n, n = ts.length := ⟨_, rfl⟩
  obtain ⟨TA, tc, htv, k2, k3, _, _⟩ := ht
  rw [← htn] at htv k2
  subst htv
  unfold maxLen at k3
  have HTN := Lib.hid htn
  clear htn
  obtain ⟨kind, level, id, lsn, next, rows⟩ := p
  simp only at HT HN HV
  obtain ⟨hv, hhv⟩ : ∃ b, b = heavy16 rows := ⟨_, rfl⟩
  rw [← hhv] at HV
  have HHV := Lib.hid hhv
  clear hhv
  obtain ⟨i0, hif, hz0, hz1, hz2⟩ := info_parts Try.infoU32
  have HI := Lib.hid hif
  have HI0 := Lib.hid hz0
  have HI1 := Lib.hid hz1
  have HI2 := Lib.hid hz2
  clear hif hz0 hz1 hz2
  have P0 := Lib.hid (PgBox.new w kind level id lsn next (.slice A n cp))
  have B0 := Lib.hid (alloc_below w (.cells #[.int .u8 kind, .int .u8 level, .int .u32 id, .int .u64 lsn, .int .u32 next, .slice A n cp] 26))
  have T0 := Lib.hid (HT.out.below B0.out)
  have S0 := Lib.hid (HS.out.below B0.out)
  unfold pgV at HV ⊢
  simp only at HV ⊢
  obtain ⟨g9, hg9⟩ : ∃ g, g = w.heap.size := ⟨_, rfl⟩
  rw [← hg9] at P0
  have HG9 := Lib.hid hg9
  have hg9w : w.heap.size ≤ g9 := by omega
  clear HT HS hg9
  go_enter Try.func5, Try.ntmps5
  go_upto_region 1 with fail
  generalize w.alloc (.cells #[.int .u8 kind, .int .u8 level, .int .u32 id, .int .u64 lsn, .int .u32 next, .slice A n cp] 26) = w0 at *
  rw [← HG9.out]
  obtain ⟨x0, x1, x2, x3, x4, x5, x6⟩ := P0.out.cells
  go_wp2_with fail
  clear x0 x1 x2 x3 x4 x5 x6
  refine (HV.out _ T0.out).mono ?_
  rintro e w1 ⟨rfl, hb⟩
  have B1 := Lib.hid (below_then B0.out hb)
  have P1 := Lib.hid (P0.out.below hb)
  have T1 := Lib.hid (T0.out.below hb)
  have S1 := Lib.hid (S0.out.below hb)
  clear hb B0 P0 T0 S0
  obtain ⟨x0, x1, x2, x3, x4, x5, x6⟩ := P1.out.cells
  cases hv
  case true =>
    go_wp2_with fail
    refine (AL.out _).mono ?_
    rintro e wa ⟨rfl, hba⟩
    have Ba := Lib.hid (below_then B1.out hba)
    clear hba
    go_wp2_with fail
    go_ret
    exact ⟨rfl, Ba.out⟩
  have hhw := heavy16_no HHV.out.symm
  by_cases ht60 : tn ≤ 60
  case neg =>
    have hti : decide ((60 : Int) < (tn : Int)) = true := decide_eq_true (by omega)
    go_wp2_with fail
    refine (AL.out _).mono ?_
    rintro e wa ⟨rfl, hba⟩
    have Ba := Lib.hid (below_then B1.out hba)
    clear hba
    go_wp2_with fail
    go_ret
    exact ⟨rfl, Ba.out⟩
  have hti : decide ((60 : Int) < (tn : Int)) = false := decide_eq_false (by omega)
  go_upto_region 3 with fail
  clear x0 x1 x2 x3 x4 x5 x6
  have CN := Lib.hid fun tv' W (h : N32At W tv' ts) => spaceNew_any nid pages tv' ts W hid hpg h HTS.out (by rw [← HTN.out]; omega)
  have CR := Lib.hid fun W (h : N32At W (.slice TA tn tc) ts) => refNew_any nid pages (.slice TA tn tc) ts W hid hpg h HTS.out (by rw [← HTN.out]; omega)
  have NF := Lib.hid (newB_fine nid pages ts hid)
  obtain ⟨⟨⟨xa, xb, xc, xd, xe, rowsX⟩, er⟩, hR⟩ : ∃ R, R = newB nid pages ts := ⟨_, rfl⟩
  rw [← hR] at CN CR NF
  clear hR HTS hid hpg
  simp only at NF
  go_cut [13, 14] (fun s13 s14 w' => ∃ (gx : Nat) (ax : Option Addr) (cx : Nat), s13 = .pointer (some ⟨gx, 0, none⟩) ∧ s14 = .int .i64 er ∧ Hid (PgBox w' gx xa xb xc xd xe (.slice ax rowsX.length cx)) ∧ Hid (TextsAt w' (.slice ax rowsX.length cx) rowsX) ∧ Hid (Below w1.heap.size w1 w'))
  case first =>
    have TR := Lib.hid S1.out.reads
    rw [← HTN.out] at TR
    clear AL HHV CR NF P1 T1 HP
    go_wp2_with (at_builtin; refine wpList_append_any _ rfl _ _ 55 rfl w1.heap.size 22 i0 (.int .u32 0) 1 4 Try.underlying55 HI.out HI0.out HI1.out HI2.out rfl (by decide) (.slice none 0 0) 0 [] (by rfl) (World.ownsRow_nil _ _ _ _) (.slice TA tn tc) tn (n32 ts) (by rfl) TR.out (n32_oneCell _) (by unfold maxLen; omega) (by omega) (Nat.le_refl _) ?_; intro vx wx hownx hgrowx; have HOX := Lib.hid hownx; have HGX := Lib.hid hgrowx; clear hownx hgrowx)
    have hownx := HOX.out
    simp only [Nat.zero_add, List.nil_append] at hownx
    have hbx := (Below.refl w1.heap.size w1).grown HGX.out (Nat.le_refl _) (fun j hj => by cases hj)
    refine (CN.out _ _ (n32_own hownx).1).mono ?_
    rintro e wy ⟨sv', rfl, hty, hby⟩
    simp only at hty
    have hty2 := hty
    obtain ⟨ax, cx, hax, _, _, _, _⟩ := hty2
    subst hax
    have hb2 := hbx.trans (hby.mono hbx.size)
    have hb3 := hb2.trans ((alloc_below wy (.cells #[.int .u8 xa, .int .u8 xb, .int .u32 xc, .int .u64 xd, .int .u32 xe, .slice ax rowsX.length cx] 26)).mono hb2.size)
    have PX := Lib.hid (PgBox.new wy xa xb xc xd xe (.slice ax rowsX.length cx))
    have TX := Lib.hid (hty.below (alloc_below wy (.cells #[.int .u8 xa, .int .u8 xb, .int .u32 xc, .int .u64 xd, .int .u32 xe, .slice ax rowsX.length cx] 26)))
    have BX := Lib.hid hb3
    clear HOX HGX hownx hbx hty hby hb2 hb3 TR CN
    unfold pgV
    simp only
    go_wp2_with fail
    go_meet
    exact ⟨_, ax, cx, rfl, rfl, PX, TX, BX⟩
  case rest =>
  obtain ⟨gx, ax, cx, rfl, rfl, X2, U2, hbc⟩ := hcut
  generalize wc = w2 at *
  have hb := hbc.out
  clear hbc CN
  obtain ⟨xn, hxn⟩ : ∃ n, n = rowsX.length := ⟨_, rfl⟩
  rw [← hxn] at X2 U2
  have HXN := Lib.hid hxn
  clear hxn
  have B2 := Lib.hid (below_then B1.out hb)
  have P2 := Lib.hid (P1.out.below hb)
  have T2 := Lib.hid (T1.out.below hb)
  have S2 := Lib.hid (S1.out.below hb)
  clear hb B1 P1 T1 S1
  obtain ⟨x0, x1, x2, x3, x4, x5, x6⟩ := P2.out.cells
  obtain ⟨y0, y1, y2, y3, y4, y5, y6⟩ := X2.out.cells
  go_wp2_with fail
  clear x0 x1 x2 x3 x4 x5 x6 y0 y1 y2 y3 y4 y5 y6
  refine (CR.out _ S2.out).mono ?_
  rintro e w3 ⟨sv3, rfl, G, hb⟩
  simp only at G
  have V3 := Lib.hid G
  obtain ⟨A3, cp3, hv3, _, _, _, _⟩ := G
  rw [← HXN.out] at hv3
  subst hv3
  have B3 := Lib.hid (below_then B2.out hb)
  have P3 := Lib.hid (P2.out.below hb)
  have T3 := Lib.hid (T2.out.below hb)
  have S3 := Lib.hid (S2.out.below hb)
  have X3 := Lib.hid (X2.out.below hb)
  have U3 := Lib.hid (U2.out.below hb)
  clear hb B2 P2 T2 S2 X2 U2
  obtain ⟨x0, x1, x2, x3, x4, x5, x6⟩ := P3.out.cells
  obtain ⟨y0, y1, y2, y3, y4, y5, y6⟩ := X3.out.cells
  unfold pgV
  simp only
  go_upto_region 5 with fail
  clear x0 x1 x2 x3 x4 x5 x6 y0 y1 y2 y3 y4 y5 y6
  have BN := Lib.hid (alloc_below w3 (.cells #[.int .u8 xa, .int .u8 xb, .int .u32 xc, .int .u64 xd, .int .u32 xe, .slice A3 xn cp3] 26))
  have Y4 := Lib.hid (PgBox.new w3 xa xb xc xd xe (.slice A3 xn cp3))
  generalize w3.alloc (.cells #[.int .u8 xa, .int .u8 xb, .int .u32 xc, .int .u64 xd, .int .u32 xe, .slice A3 xn cp3] 26) = w4 at *
  have hb := BN.out
  clear BN CR
  have B4 := Lib.hid (below_then B3.out hb)
  have P4 := Lib.hid (P3.out.below hb)
  have T4 := Lib.hid (T3.out.below hb)
  have S4 := Lib.hid (S3.out.below hb)
  have X4 := Lib.hid (X3.out.below hb)
  have U4 := Lib.hid (U3.out.below hb)
  have V4 := Lib.hid (V3.out.below hb)
  clear hb B3 P3 T3 S3 X3 U3 V3
  have ee : (er != er) = false := by simp
  obtain ⟨x0, x1, x2, x3, x4, x5, x6⟩ := P4.out.cells
  obtain ⟨y0, y1, y2, y3, y4, y5, y6⟩ := X4.out.cells
  obtain ⟨z0, z1, z2, z3, z4, z5, z6⟩ := Y4.out.cells
  go_wp2_with fail
  clear x0 x1 x2 x3 x4 x5 x6 y0 y1 y2 y3 y4 y5 y6 z0 z1 z2 z3 z4 z5 z6
  refine (refSame06_eq ⟨xa, xb, xc, xd, xe, rowsX⟩ (.slice ax xn cx) (.slice A3 xn cp3) _ U4.out V4.out).mono ?_
  rintro e w5 ⟨rfl, hb⟩
  have B5 := Lib.hid (below_then B4.out hb)
  have P5 := Lib.hid (P4.out.below hb)
  have T5 := Lib.hid (T4.out.below hb)
  have S5 := Lib.hid (S4.out.below hb)
  have X5 := Lib.hid (X4.out.below hb)
  have U5 := Lib.hid (U4.out.below hb)
  have V5 := Lib.hid (V4.out.below hb)
  have Y5 := Lib.hid (Y4.out.below hb)
  clear hb B4 P4 T4 S4 X4 U4 V4 Y4
  clear X5
  clear U5
  clear S5
  clear ee
  obtain ⟨x0, x1, x2, x3, x4, x5, x6⟩ := P5.out.cells
  obtain ⟨z0, z1, z2, z3, z4, z5, z6⟩ := Y5.out.cells
  go_upto_region 7 with fail
  clear x0 x1 x2 x3 x4 x5 x6 z0 z1 z2 z3 z4 z5 z6
  have KEEP : Hid (∃ (P' : Pg) (A' : Option Addr) (c' : Nat), Hid (PgBox w5 g9 P'.kind P'.level P'.id P'.lsn P'.next (.slice A' P'.rows.length c')) ∧ Hid (TextsAt w5 (.slice A' P'.rows.length c') P'.rows) ∧ Hid (P'.wf ∧ weightB P'.rows ≤ 5000 ∧ P'.rows.length ≤ 60) ∧ Hid (Below w.heap.size w w5)) :=
    Lib.hid ⟨⟨kind, level, id, lsn, next, rows⟩, A, cp, Lib.hid (by simp only; rw [← HN.out]; exact P5.out), Lib.hid (by simp only; rw [← HN.out]; exact T5.out), Lib.hid ⟨HP.out, hhw.2, hhw.1⟩, B5⟩
  obtain ⟨c68, hc68⟩ : ∃ c, c = (own && (er == (0 : Int))) := ⟨_, rfl⟩
  have HC68 := Lib.hid hc68
  clear hc68
  go_cut [68] (fun s68 w' => s68 = .bool c68 ∧ w' = w5)
  case first =>
    clear AL KEEP
    cases own
    case false =>
      go_wp2_with fail
      go_meet
      exact ⟨by rw [HC68.out]; rfl, rfl⟩
    go_wp2_with fail
    go_meet
    exact ⟨by rw [HC68.out]; simp, rfl⟩
  case rest =>
  obtain ⟨rfl, rfl⟩ := hcut
  go_upto_if 68 with fail
  go_cut [69] (fun _ w' => ∃ (P' : Pg) (A' : Option Addr) (c' : Nat), Hid (PgBox w' g9 P'.kind P'.level P'.id P'.lsn P'.next (.slice A' P'.rows.length c')) ∧ Hid (TextsAt w' (.slice A' P'.rows.length c') P'.rows) ∧ Hid (P'.wf ∧ weightB P'.rows ≤ 5000 ∧ P'.rows.length ≤ 60) ∧ Hid (Below w.heap.size w w'))
  case first =>
    clear AL
    cases c68
    case false =>
      go_wp2_with fail
      go_meet
      exact KEEP.out
    clear KEEP
    obtain ⟨z0, z1, z2, z3, z4, z5, z6⟩ := Y5.out.cells
    go_wp2_with (refine wpList_store_pg rfl (.tmp 9) (.tmp 69) rfl P5.out xa xb xc xd xe A3 xn cp3 (by rfl) (by rfl) ?_; intro wS hP hK; have PS := Lib.hid hP; have KS := Lib.hid hK; clear hP hK)
    go_meet
    exact ⟨⟨xa, xb, xc, xd, xe, rowsX⟩, A3, cp3, Lib.hid (by simp only; rw [← HXN.out]; exact PS.out), Lib.hid (by simp only; rw [← HXN.out]; exact TextsAt.off_pg V5.out P5.out (fun x e => by cases e) KS.out), NF, Lib.hid (OthersKept.below B5.out KS.out (fun k hk e => by omega))⟩
  case rest =>
  obtain ⟨⟨pa, pb, pc, pd, pe, rowsP⟩, pA, pcp, PP0, TT0, FF0, BB0⟩ := hcut
  generalize wc = w0 at *
  clear P5 T5 V5 Y5 B5 HP HHV HN hhw NF KEEP HC68
  simp only at PP0 TT0 FF0
  obtain ⟨pn, hpn⟩ : ∃ n, n = rowsP.length := ⟨_, rfl⟩
  rw [← hpn] at PP0 TT0
  have HPN := Lib.hid hpn
  have hpn60 : pn ≤ 60 := by have := FF0.out.2.2; omega
  clear hpn
  have P0 := PP0
  have T0 := TT0
  have B0 := BB0
  clear PP0 TT0 BB0
  have hW : weightB rowsP ≤ 1000000 := by have := FF0.out.2.1; omega
  have HW := Lib.hid hW
  clear hW
  have CC := Lib.hid fun W h => copied16_any ⟨pa, pb, pc, pd, pe, rowsP⟩ (.slice pA pn pcp) W h (by rw [← HPN.out]; omega)
  have CA := Lib.hid fun sv W h => spaceAlloc_any ⟨pa, pb, pc, pd, pe, rowsP⟩ sv W FF0.out.1 h HW.out
  have RA := Lib.hid fun W h => refAlloc_any ⟨pa, pb, pc, pd, pe, rowsP⟩ (.slice pA pn pcp) W FF0.out.1 h HW.out
  have CF := Lib.hid fun sv W h => spaceGive_any ⟨pa, pb, pc, pd, pe, rowsP⟩ sv n0 W FF0.out.1 h HW.out
  have RF := Lib.hid fun W h => refGive_any ⟨pa, pb, pc, pd, pe, rowsP⟩ (.slice pA pn pcp) n0 W FF0.out.1 h HW.out
  have CO := Lib.hid fun sv W h => spaceCount_any ⟨pa, pb, pc, pd, pe, rowsP⟩ sv W FF0.out.1 h HW.out
  have RL := Lib.hid fun W h => refAll_any ⟨pa, pb, pc, pd, pe, rowsP⟩ (.slice pA pn pcp) W FF0.out.1 h HW.out
  have CK := Lib.hid fun sv W h => spaceCheck_any ⟨pa, pb, pc, pd, pe, rowsP⟩ sv W FF0.out.1 h HW.out
  have RK := Lib.hid fun W h => refCheck16_any ⟨pa, pb, pc, pd, pe, rowsP⟩ (.slice pA pn pcp) W FF0.out.1 h HW.out
  have CI := Lib.hid fun sv W h => spaceIs_any ⟨pa, pb, pc, pd, pe, rowsP⟩ sv n0 W FF0.out.1 h HW.out
  have RI := Lib.hid fun W h => refIs16_any ⟨pa, pb, pc, pd, pe, rowsP⟩ (.slice pA pn pcp) n0 W FF0.out.1 h HW.out
  have CL := Lib.hid fun sv W h => spaceAll_any ⟨pa, pb, pc, pd, pe, rowsP⟩ sv W FF0.out.1 h HW.out
  have CLAW := Lib.hid (count_law ⟨pa, pb, pc, pd, pe, rowsP⟩)
  obtain ⟨⟨a1, ⟨o0, o1, o2, o3, o4, o5, o6, o7, o8⟩, e1⟩, hA1⟩ : ∃ R, R = allocB ⟨pa, pb, pc, pd, pe, rowsP⟩ := ⟨_, rfl⟩
  obtain ⟨⟨⟨q0, q1, q2, q3, q4, q5, q6, q7, q8⟩, e2⟩, hA2⟩ : ∃ R, R = giveB ⟨pa, pb, pc, pd, pe, rowsP⟩ n0 := ⟨_, rfl⟩
  obtain ⟨⟨c1, c2⟩, hA3⟩ : ∃ R, R = countB ⟨pa, pb, pc, pd, pe, rowsP⟩ := ⟨_, rfl⟩
  obtain ⟨L, hA4⟩ : ∃ R, R = freeL ⟨pa, pb, pc, pd, pe, rowsP⟩ := ⟨_, rfl⟩
  obtain ⟨ck, hA5⟩ : ∃ R, R = chkB ⟨pa, pb, pc, pd, pe, rowsP⟩ := ⟨_, rfl⟩
  obtain ⟨bi, hA6⟩ : ∃ R, R = isB ⟨pa, pb, pc, pd, pe, rowsP⟩ n0 := ⟨_, rfl⟩
  rw [← hA1] at CA RA
  rw [← hA2] at CF RF
  rw [← hA3] at CO CLAW
  rw [← hA4] at RL CL CLAW
  rw [← hA5] at CK RK CLAW
  rw [← hA6] at CI RI
  clear hA1 hA2 hA3 hA4 hA5 hA6
  (try simp only at CLAW)
  unfold pgV at CC CA RA CF RF CO RL CK RK CI RI CL
  unfold odV at CA RA CF RF
  (try simp only at CC)
  (try simp only at CA)
  (try simp only at RA)
  (try simp only at CF)
  (try simp only at RF)
  (try simp only at CO)
  (try simp only at RL)
  (try simp only at CK)
  (try simp only at RK)
  (try simp only at CI)
  (try simp only at RI)
  (try simp only at CL)
  obtain ⟨x0, x1, x2, x3, x4, x5, x6⟩ := P0.out.cells
  go_wp2_with fail
  clear x0 x1 x2 x3 x4 x5 x6
  refine (CC.out _ T0.out).mono ?_
  rintro e w1 ⟨sv1, rfl, G, hb⟩
  (try simp only at G)
  have D1 := Lib.hid G
  obtain ⟨A1, cp1, hv1, _, _, _, _⟩ := G
  rw [← HPN.out] at hv1
  subst hv1
  have B1 := Lib.hid (below_then B0.out hb)
  have P1 := Lib.hid (P0.out.below hb)
  have T1 := Lib.hid (T0.out.below hb)
  clear hb B0 P0 T0
  obtain ⟨x0, x1, x2, x3, x4, x5, x6⟩ := P1.out.cells
  go_wp2_with fail
  clear x0 x1 x2 x3 x4 x5 x6
  refine (CA.out _ _ D1.out).mono ?_
  rintro e w2 ⟨rfl, hb⟩
  have B2 := Lib.hid (below_then B1.out hb)
  have P2 := Lib.hid (P1.out.below hb)
  have T2 := Lib.hid (T1.out.below hb)
  clear hb B1 P1 T1
  obtain ⟨x0, x1, x2, x3, x4, x5, x6⟩ := P2.out.cells
  (try unfold odV)
  (try simp only)
  go_upto_region 10 with fail
  clear x0 x1 x2 x3 x4 x5 x6
  have BN := Lib.hid (alloc_below w2 (.cells #[.int .u8 o0, .int .u32 o1, .int .i64 o2, .int .i64 o3, .string ⟨o4.toArray⟩, .slice none 0 0, .int .u8 o6, .int .u8 o7, .int .u32 o8] 28))
  have OA3 := Lib.hid (OAt.new w2 ⟨o0, o1, o2, o3, o4, o5, o6, o7, o8⟩ (.slice none 0 0))
  generalize w2.alloc (.cells #[.int .u8 o0, .int .u32 o1, .int .i64 o2, .int .i64 o3, .string ⟨o4.toArray⟩, .slice none 0 0, .int .u8 o6, .int .u8 o7, .int .u32 o8] 28) = w3 at *
  have hb := BN.out
  clear BN
  have B3 := Lib.hid (below_then B2.out hb)
  have P3 := Lib.hid (P2.out.below hb)
  have T3 := Lib.hid (T2.out.below hb)
  clear hb B2 P2 T2
  obtain ⟨x0, x1, x2, x3, x4, x5, x6⟩ := P3.out.cells
  go_wp2_with fail
  clear x0 x1 x2 x3 x4 x5 x6
  refine (RA.out _ T3.out).mono ?_
  rintro e w4 ⟨rfl, hb⟩
  have B4 := Lib.hid (below_then B3.out hb)
  have P4 := Lib.hid (P3.out.below hb)
  have T4 := Lib.hid (T3.out.below hb)
  have OA4 := Lib.hid (OA3.out.below hb)
  clear hb B3 P3 T3 OA3
  obtain ⟨x0, x1, x2, x3, x4, x5, x6⟩ := P4.out.cells
  (try unfold odV)
  (try simp only)
  go_upto_region 11 with fail
  clear x0 x1 x2 x3 x4 x5 x6
  have BN := Lib.hid (alloc_below w4 (.cells #[.int .u8 o0, .int .u32 o1, .int .i64 o2, .int .i64 o3, .string ⟨o4.toArray⟩, .slice none 0 0, .int .u8 o6, .int .u8 o7, .int .u32 o8] 28))
  have OB5 := Lib.hid (OAt.new w4 ⟨o0, o1, o2, o3, o4, o5, o6, o7, o8⟩ (.slice none 0 0))
  generalize w4.alloc (.cells #[.int .u8 o0, .int .u32 o1, .int .i64 o2, .int .i64 o3, .string ⟨o4.toArray⟩, .slice none 0 0, .int .u8 o6, .int .u8 o7, .int .u32 o8] 28) = w5 at *
  have hb := BN.out
  clear BN
  have B5 := Lib.hid (below_then B4.out hb)
  have P5 := Lib.hid (P4.out.below hb)
  have T5 := Lib.hid (T4.out.below hb)
  have OA5 := Lib.hid (OA4.out.below hb)
  clear hb B4 P4 T4 OA4
  obtain ⟨x0, x1, x2, x3, x4, x5, x6⟩ := P5.out.cells
  go_wp2_with fail
  clear x0 x1 x2 x3 x4 x5 x6
  refine (CC.out _ T5.out).mono ?_
  rintro e w6 ⟨sv6, rfl, G, hb⟩
  (try simp only at G)
  have D6 := Lib.hid G
  obtain ⟨A6, cp6, hv6, _, _, _, _⟩ := G
  rw [← HPN.out] at hv6
  subst hv6
  have B6 := Lib.hid (below_then B5.out hb)
  have P6 := Lib.hid (P5.out.below hb)
  have T6 := Lib.hid (T5.out.below hb)
  have OA6 := Lib.hid (OA5.out.below hb)
  have OB6 := Lib.hid (OB5.out.below hb)
  clear hb B5 P5 T5 OA5 OB5
  obtain ⟨x0, x1, x2, x3, x4, x5, x6⟩ := P6.out.cells
  go_wp2_with fail
  clear x0 x1 x2 x3 x4 x5 x6
  refine (CF.out _ _ D6.out).mono ?_
  rintro e w7 ⟨rfl, hb⟩
  have B7 := Lib.hid (below_then B6.out hb)
  have P7 := Lib.hid (P6.out.below hb)
  have T7 := Lib.hid (T6.out.below hb)
  have OA7 := Lib.hid (OA6.out.below hb)
  have OB7 := Lib.hid (OB6.out.below hb)
  clear hb B6 P6 T6 OA6 OB6
  obtain ⟨x0, x1, x2, x3, x4, x5, x6⟩ := P7.out.cells
  (try unfold odV)
  (try simp only)
  go_upto_region 12 with fail
  clear x0 x1 x2 x3 x4 x5 x6
  have BN := Lib.hid (alloc_below w7 (.cells #[.int .u8 q0, .int .u32 q1, .int .i64 q2, .int .i64 q3, .string ⟨q4.toArray⟩, .slice none 0 0, .int .u8 q6, .int .u8 q7, .int .u32 q8] 28))
  have OC8 := Lib.hid (OAt.new w7 ⟨q0, q1, q2, q3, q4, q5, q6, q7, q8⟩ (.slice none 0 0))
  generalize w7.alloc (.cells #[.int .u8 q0, .int .u32 q1, .int .i64 q2, .int .i64 q3, .string ⟨q4.toArray⟩, .slice none 0 0, .int .u8 q6, .int .u8 q7, .int .u32 q8] 28) = w8 at *
  have hb := BN.out
  clear BN
  have B8 := Lib.hid (below_then B7.out hb)
  have P8 := Lib.hid (P7.out.below hb)
  have T8 := Lib.hid (T7.out.below hb)
  have OA8 := Lib.hid (OA7.out.below hb)
  have OB8 := Lib.hid (OB7.out.below hb)
  clear hb B7 P7 T7 OA7 OB7
  obtain ⟨x0, x1, x2, x3, x4, x5, x6⟩ := P8.out.cells
  go_wp2_with fail
  clear x0 x1 x2 x3 x4 x5 x6
  refine (RF.out _ T8.out).mono ?_
  rintro e w9 ⟨rfl, hb⟩
  have B9 := Lib.hid (below_then B8.out hb)
  have P9 := Lib.hid (P8.out.below hb)
  have T9 := Lib.hid (T8.out.below hb)
  have OA9 := Lib.hid (OA8.out.below hb)
  have OB9 := Lib.hid (OB8.out.below hb)
  have OC9 := Lib.hid (OC8.out.below hb)
  clear hb B8 P8 T8 OA8 OB8 OC8
  obtain ⟨x0, x1, x2, x3, x4, x5, x6⟩ := P9.out.cells
  (try unfold odV)
  (try simp only)
  go_upto_region 13 with fail
  clear x0 x1 x2 x3 x4 x5 x6
  have BN := Lib.hid (alloc_below w9 (.cells #[.int .u8 q0, .int .u32 q1, .int .i64 q2, .int .i64 q3, .string ⟨q4.toArray⟩, .slice none 0 0, .int .u8 q6, .int .u8 q7, .int .u32 q8] 28))
  have OD10 := Lib.hid (OAt.new w9 ⟨q0, q1, q2, q3, q4, q5, q6, q7, q8⟩ (.slice none 0 0))
  generalize w9.alloc (.cells #[.int .u8 q0, .int .u32 q1, .int .i64 q2, .int .i64 q3, .string ⟨q4.toArray⟩, .slice none 0 0, .int .u8 q6, .int .u8 q7, .int .u32 q8] 28) = w10 at *
  have hb := BN.out
  clear BN
  have B10 := Lib.hid (below_then B9.out hb)
  have P10 := Lib.hid (P9.out.below hb)
  have T10 := Lib.hid (T9.out.below hb)
  have OA10 := Lib.hid (OA9.out.below hb)
  have OB10 := Lib.hid (OB9.out.below hb)
  have OC10 := Lib.hid (OC9.out.below hb)
  clear hb B9 P9 T9 OA9 OB9 OC9
  obtain ⟨x0, x1, x2, x3, x4, x5, x6⟩ := P10.out.cells
  go_wp2_with fail
  clear x0 x1 x2 x3 x4 x5 x6
  refine (CC.out _ T10.out).mono ?_
  rintro e w11 ⟨sv11, rfl, G, hb⟩
  (try simp only at G)
  have D11 := Lib.hid G
  obtain ⟨A11, cp11, hv11, _, _, _, _⟩ := G
  rw [← HPN.out] at hv11
  subst hv11
  have B11 := Lib.hid (below_then B10.out hb)
  have P11 := Lib.hid (P10.out.below hb)
  have T11 := Lib.hid (T10.out.below hb)
  have OA11 := Lib.hid (OA10.out.below hb)
  have OB11 := Lib.hid (OB10.out.below hb)
  have OC11 := Lib.hid (OC10.out.below hb)
  have OD11 := Lib.hid (OD10.out.below hb)
  clear hb B10 P10 T10 OA10 OB10 OC10 OD10
  obtain ⟨x0, x1, x2, x3, x4, x5, x6⟩ := P11.out.cells
  go_wp2_with fail
  clear x0 x1 x2 x3 x4 x5 x6
  refine (CO.out _ _ D11.out).mono ?_
  rintro e w12 ⟨rfl, hb⟩
  have B12 := Lib.hid (below_then B11.out hb)
  have P12 := Lib.hid (P11.out.below hb)
  have T12 := Lib.hid (T11.out.below hb)
  have OA12 := Lib.hid (OA11.out.below hb)
  have OB12 := Lib.hid (OB11.out.below hb)
  have OC12 := Lib.hid (OC11.out.below hb)
  have OD12 := Lib.hid (OD11.out.below hb)
  clear hb B11 P11 T11 OA11 OB11 OC11 OD11
  obtain ⟨x0, x1, x2, x3, x4, x5, x6⟩ := P12.out.cells
  go_wp2_with fail
  clear x0 x1 x2 x3 x4 x5 x6
  refine (RL.out _ T12.out).mono ?_
  rintro e w13 ⟨vL, rfl, hN, hb⟩
  have NL13 := Lib.hid hN
  obtain ⟨AL2, cL, hvL, _, _, _, _⟩ := hN
  obtain ⟨ln, hln⟩ : ∃ n, n = L.length := ⟨_, rfl⟩
  rw [← hln] at hvL CLAW
  have HLN := Lib.hid hln
  subst hvL
  clear hln
  have B13 := Lib.hid (below_then B12.out hb)
  have P13 := Lib.hid (P12.out.below hb)
  have T13 := Lib.hid (T12.out.below hb)
  have OA13 := Lib.hid (OA12.out.below hb)
  have OB13 := Lib.hid (OB12.out.below hb)
  have OC13 := Lib.hid (OC12.out.below hb)
  have OD13 := Lib.hid (OD12.out.below hb)
  clear hb B12 P12 T12 OA12 OB12 OC12 OD12
  obtain ⟨x0, x1, x2, x3, x4, x5, x6⟩ := P13.out.cells
  have hln1024 : (ln : Int) ≤ 1024 := by have := CLAW.out.2.1; omega
  go_upto_region 16 with fail
  obtain ⟨c111, hc111⟩ : ∃ c, c = (ck != (0 : Int)) := ⟨_, rfl⟩
  have HC111 := Lib.hid hc111
  clear hc111
  clear x0 x1 x2 x3 x4 x5 x6
  go_cut [111] (fun s111 w' => s111 = .bool c111 ∧ Hid (Below w13.heap.size w13 w'))
  case first =>
    obtain ⟨x0, x1, x2, x3, x4, x5, x6⟩ := P13.out.cells
    go_wp2_with fail
    clear x0 x1 x2 x3 x4 x5 x6
    refine (RK.out _ T13.out).mono ?_
    rintro e wa ⟨rfl, hba⟩
    have Ba := Lib.hid hba
    clear hba
    go_wp2_with fail
    go_meet
    exact ⟨by rw [HC111.out], Ba⟩
  case rest =>
  obtain ⟨rfl, hbc⟩ := hcut
  generalize wc = w14 at *
  have hb := hbc.out
  clear hbc
  have B14 := Lib.hid (below_then B13.out hb)
  have P14 := Lib.hid (P13.out.below hb)
  have T14 := Lib.hid (T13.out.below hb)
  have OA14 := Lib.hid (OA13.out.below hb)
  have OB14 := Lib.hid (OB13.out.below hb)
  have OC14 := Lib.hid (OC13.out.below hb)
  have OD14 := Lib.hid (OD13.out.below hb)
  have NL14 := Lib.hid (NL13.out.below hb)
  clear hb B13 P13 T13 OA13 OB13 OC13 OD13 NL13
  go_upto_if 111 with fail
  go_cut [30] (fun s30 w' => s30 = .int .i64 (c1 : Int) ∧ w' = w14)
  case first =>
    have hlaw := CLAW.out
    have hlaw2 := hlaw.2.2
    cases c111
    case false =>
      have hck : ck = 0 := by have := HC111.out; simpa using this
      rw [if_pos hck] at hlaw2
      have hc1 : c1 = 1024 - ln := (Prod.mk.inj hlaw2).1
      have hx := hlaw.2.1
      clear hlaw hlaw2
      go_wp2_with fail
      go_meet
      exact ⟨by congr 1; omega, rfl⟩
    have hck : ck ≠ 0 := by have := HC111.out; simpa using this
    rw [if_neg hck] at hlaw2
    have hc1 : c1 = 0 := (Prod.mk.inj hlaw2).1
    clear hlaw hlaw2
    go_wp2_with fail
    go_meet
    exact ⟨by rw [hc1]; rfl, rfl⟩
  case rest =>
  obtain ⟨rfl, rfl⟩ := hcut
  generalize wc = w14 at *
  have hc2 : c2 = ln := by
    have h := CLAW.out.2.2
    split at h
    · exact (Prod.mk.inj h).2
    · exact (Prod.mk.inj h).2
  subst hc2
  have SO := Lib.hid fun W => sameOp_any ⟨o0, o1, o2, o3, o4, o5, o6, o7, o8⟩ W
  have SQ := Lib.hid fun W => sameOp_any ⟨q0, q1, q2, q3, q4, q5, q6, q7, q8⟩ W
  simp only at SO SQ
  clear CA RA CF RF CO RL CLAW FF0 HW HI HI0 HI1 HI2 HTN HXN HC111 hn0 h2 h3 k2 k3 hti ht60
  have t0 : (ck == ck) = true := by simp
  have t1 : ((a1 : Int) == (a1 : Int)) = true := by simp
  have t2 : (e1 == e1) = true := by simp
  have t3 : (e2 == e2) = true := by simp
  have t4 : (bi == bi) = true := by simp
  have t5 : ((c1 : Int) == (c1 : Int)) = true := by simp
  have t6 : ((c2 : Int) == (c2 : Int)) = true := by simp
  go_upto_region 18 with fail
  refine wp_region_held_drew (S := fun W => Below w14.heap.size w14 W) (by kernel_rfl) ((Below.refl _ _).drew) (fun hHeld => ?_)
  generalize w14.drew = v0 at *
  refine wpAnyH_take (i := 0) (oi := { dst := some 112, op := Go.Op.load 26 (Go.Operand.tmp 9), type := 26, pos := "law.go:73", after := #[], guard := none }) (v := ?_) rfl (by kernel_rfl) (by kernel_rfl) (by kernel_rfl) (fun _ _ _ h => h) (Or.inl ⟨by rfl, ?_⟩) hHeld ?_
  rotate_left
  · (intro w hSw; obtain ⟨x0, x1, x2, x3, x4, x5, x6⟩ := (P14.out.below hSw).cells; go_simp <;> with_reducible rfl)
  simp only [Act.put, List.setIfInBounds_toArray, List.set_cons_zero, List.set_cons_succ]
  refine wpAnyH_take (i := 3) (oi := { dst := some 115, op := Go.Op.load 26 (Go.Operand.tmp 9), type := 26, pos := "law.go:73", after := #[], guard := none }) (v := ?_) rfl (by kernel_rfl) (by kernel_rfl) (by kernel_rfl) (fun _ _ _ h => h) (Or.inl ⟨by rfl, ?_⟩) hHeld ?_
  rotate_left
  · (intro w hSw; obtain ⟨x0, x1, x2, x3, x4, x5, x6⟩ := (P14.out.below hSw).cells; go_simp <;> with_reducible rfl)
  simp only [Act.put, List.setIfInBounds_toArray, List.set_cons_zero, List.set_cons_succ]
  refine wpAnyH_ready (rs := [1]) (by kernel_rfl) (by simp) (AllReadyH.cons (o := { dst := some 113, op := Go.Op.call { callee := Go.Callee.value (Go.Operand.func 33), args := #[Go.Operand.tmp 112], argTypes := #[26] }, type := 26, pos := "law.go:73", after := #[{ on := 0, ground := Go.Ground.data }], guard := none }) rfl (fun K hK => ?_) AllReadyH.nil)
  · go_simp
    refine (CC.out _ (T14.out.below hHeld)).mono ?_
    rintro e v1 ⟨sv1, rfl, G, hb⟩
    (try simp only at G)
    have DC1 := Lib.hid G
    obtain ⟨DA1, dcp1, hdv1, _, _, _, _⟩ := G
    rw [← HPN.out] at hdv1
    subst hdv1
    have hS1 := Lib.hid (below_then hHeld hb)
    clear hHeld hb
    refine hK.out _ _ ?_ (fun hHeld => ?_)
    · exact hS1.out
    clear hK K
    (try simp only [Act.put, List.setIfInBounds_toArray, List.set_cons_zero, List.set_cons_succ])
    refine wpAnyH_ready (rs := [2]) (by kernel_rfl) (by simp) (AllReadyH.cons (o := { dst := some 114, op := Go.Op.call { callee := Go.Callee.value (Go.Operand.func 30), args := #[Go.Operand.tmp 113], argTypes := #[26] }, type := 34, pos := "law.go:73", after := #[{ on := 1, ground := Go.Ground.data }, { on := 1, ground := Go.Ground.chain }], guard := none }) rfl (fun K hK => ?_) AllReadyH.nil)
    · go_simp
      refine (CK.out _ _ DC1.out).mono ?_
      rintro e v2 ⟨rfl, hb⟩
      have hS2 := Lib.hid (below_then hHeld hb)
      clear hHeld hb
      refine hK.out _ _ ?_ (fun hHeld => ?_)
      · exact hS2.out
      clear hK K
      (try simp only [Act.put, List.setIfInBounds_toArray, List.set_cons_zero, List.set_cons_succ])
      refine wpAnyH_ready (rs := [4]) (by kernel_rfl) (by simp) (AllReadyH.cons (o := { dst := some 116, op := Go.Op.call { callee := Go.Callee.value (Go.Operand.func 38), args := #[Go.Operand.tmp 115], argTypes := #[26] }, type := 34, pos := "law.go:73", after := #[{ on := 3, ground := Go.Ground.data }, { on := 2, ground := Go.Ground.chain }], guard := none }) rfl (fun K hK => ?_) AllReadyH.nil)
      · go_simp
        refine (RK.out _ (T14.out.below hHeld)).mono ?_
        rintro e v3 ⟨rfl, hb⟩
        have hS3 := Lib.hid (below_then hHeld hb)
        clear hHeld hb
        refine hK.out _ _ ?_ (fun hHeld => ?_)
        · exact hS3.out
        clear hK K
        (try simp only [Act.put, List.setIfInBounds_toArray, List.set_cons_zero, List.set_cons_succ])
        refine wpAnyH_take (i := 5) (oi := { dst := some 117, op := Go.Op.binOp Go.BinOp.eql 34 (Go.Operand.tmp 114) (Go.Operand.tmp 116) 34, type := 4, pos := "law.go:73", after := #[{ on := 2, ground := Go.Ground.data }, { on := 4, ground := Go.Ground.data }], guard := none }) (v := ?_) rfl (by kernel_rfl) (by kernel_rfl) (by kernel_rfl) (fun _ _ _ h => h) (Or.inl ⟨by rfl, ?_⟩) hHeld ?_
        rotate_left
        · (intro w hSw; go_simp <;> with_reducible rfl)
        simp only [Act.put, List.setIfInBounds_toArray, List.set_cons_zero, List.set_cons_succ]
        refine wpAnyH_take (i := 6) (oi := { dst := some 118, op := Go.Op.move (Go.Operand.tmp 117), type := 4, pos := "law.go:73", after := #[{ on := 5, ground := Go.Ground.data }, { on := 4, ground := Go.Ground.chain }], guard := none }) (v := ?_) rfl (by kernel_rfl) (by kernel_rfl) (by kernel_rfl) (fun _ _ _ h => h) (Or.inl ⟨by rfl, ?_⟩) hHeld ?_
        rotate_left
        · (intro w hSw; go_simp <;> with_reducible rfl)
        simp only [Act.put, List.setIfInBounds_toArray, List.set_cons_zero, List.set_cons_succ]
        refine wpAnyH_take (i := 7) (oi := { dst := some 119, op := Go.Op.move (Go.Operand.tmp 17), type := 22, pos := "law.go:73", after := #[{ on := 6, ground := Go.Ground.guard }], guard := some (6, true) }) (v := ?_) rfl (by kernel_rfl) (by kernel_rfl) (by kernel_rfl) (fun _ _ _ h => h) (Or.inl ⟨by rfl, ?_⟩) hHeld ?_
        rotate_left
        · (intro w hSw; go_simp <;> with_reducible rfl)
        simp only [Act.put, List.setIfInBounds_toArray, List.set_cons_zero, List.set_cons_succ]
        refine wpAnyH_take (i := 8) (oi := { dst := some 120, op := Go.Op.move (Go.Operand.tmp 20), type := 22, pos := "law.go:73", after := #[{ on := 6, ground := Go.Ground.guard }], guard := some (6, true) }) (v := ?_) rfl (by kernel_rfl) (by kernel_rfl) (by kernel_rfl) (fun _ _ _ h => h) (Or.inl ⟨by rfl, ?_⟩) hHeld ?_
        rotate_left
        · (intro w hSw; go_simp <;> with_reducible rfl)
        simp only [Act.put, List.setIfInBounds_toArray, List.set_cons_zero, List.set_cons_succ]
        refine wpAnyH_take (i := 9) (oi := { dst := some 121, op := Go.Op.binOp Go.BinOp.eql 22 (Go.Operand.tmp 119) (Go.Operand.tmp 120) 22, type := 4, pos := "law.go:73", after := #[{ on := 7, ground := Go.Ground.data }, { on := 8, ground := Go.Ground.data }, { on := 6, ground := Go.Ground.guard }], guard := some (6, true) }) (v := ?_) rfl (by kernel_rfl) (by kernel_rfl) (by kernel_rfl) (fun _ _ _ h => h) (Or.inl ⟨by rfl, ?_⟩) hHeld ?_
        rotate_left
        · (intro w hSw; go_simp <;> with_reducible rfl)
        simp only [Act.put, List.setIfInBounds_toArray, List.set_cons_zero, List.set_cons_succ]
        refine wpAnyH_take (i := 10) (oi := { dst := some 122, op := Go.Op.pick (Go.Operand.tmp 118) (Go.Operand.tmp 121) (Go.Operand.const (Go.Value.bool false)), type := 4, pos := "law.go:73", after := #[{ on := 6, ground := Go.Ground.data }, { on := 9, ground := Go.Ground.data }], guard := none }) (v := ?_) rfl (by kernel_rfl) (by kernel_rfl) (by kernel_rfl) (fun _ _ _ h => h) (Or.inl ⟨by rfl, ?_⟩) hHeld ?_
        rotate_left
        · (intro w hSw; go_simp <;> with_reducible rfl)
        simp only [Act.put, List.setIfInBounds_toArray, List.set_cons_zero, List.set_cons_succ]
        refine wpAnyH_take (i := 11) (oi := { dst := some 123, op := Go.Op.move (Go.Operand.tmp 122), type := 4, pos := "law.go:73", after := #[{ on := 10, ground := Go.Ground.data }, { on := 6, ground := Go.Ground.chain }], guard := none }) (v := ?_) rfl (by kernel_rfl) (by kernel_rfl) (by kernel_rfl) (fun _ _ _ h => h) (Or.inl ⟨by rfl, ?_⟩) hHeld ?_
        rotate_left
        · (intro w hSw; go_simp <;> with_reducible rfl)
        simp only [Act.put, List.setIfInBounds_toArray, List.set_cons_zero, List.set_cons_succ]
        refine wpAnyH_take (i := 12) (oi := { dst := some 124, op := Go.Op.load 28 (Go.Operand.tmp 18), type := 28, pos := "law.go:73", after := #[{ on := 11, ground := Go.Ground.guard }], guard := some (11, true) }) (v := ?_) rfl (by kernel_rfl) (by kernel_rfl) (by kernel_rfl) (fun _ _ _ h => h) (Or.inl ⟨by rfl, ?_⟩) hHeld ?_
        rotate_left
        · (intro w hSw; obtain ⟨y0, y1, y2, y3, y4, y5, y6, y7, y8⟩ := (OA14.out.under hSw).cells; simp only at y0 y1 y2 y3 y4 y5 y6 y7 y8; have y9 := blk_lt (OA14.out.under hSw); go_simp <;> with_reducible rfl)
        simp only [Act.put, List.setIfInBounds_toArray, List.set_cons_zero, List.set_cons_succ]
        refine wpAnyH_take (i := 13) (oi := { dst := some 125, op := Go.Op.load 28 (Go.Operand.tmp 21), type := 28, pos := "law.go:73", after := #[{ on := 11, ground := Go.Ground.guard }], guard := some (11, true) }) (v := ?_) rfl (by kernel_rfl) (by kernel_rfl) (by kernel_rfl) (fun _ _ _ h => h) (Or.inl ⟨by rfl, ?_⟩) hHeld ?_
        rotate_left
        · (intro w hSw; obtain ⟨y0, y1, y2, y3, y4, y5, y6, y7, y8⟩ := (OB14.out.under hSw).cells; simp only at y0 y1 y2 y3 y4 y5 y6 y7 y8; have y9 := blk_lt (OB14.out.under hSw); go_simp <;> with_reducible rfl)
        simp only [Act.put, List.setIfInBounds_toArray, List.set_cons_zero, List.set_cons_succ]
        refine wpAnyH_ready (rs := [14]) (by kernel_rfl) (by simp) (AllReadyH.cons (o := { dst := some 126, op := Go.Op.call { callee := Go.Callee.value (Go.Operand.func 39), args := #[Go.Operand.tmp 124, Go.Operand.tmp 125], argTypes := #[28, 28] }, type := 4, pos := "law.go:73", after := #[{ on := 12, ground := Go.Ground.data }, { on := 13, ground := Go.Ground.data }, { on := 11, ground := Go.Ground.chain }, { on := 11, ground := Go.Ground.guard }], guard := some (11, true) }) rfl (fun K hK => ?_) AllReadyH.nil)
        · go_simp
          refine (SO.out _).mono ?_
          rintro e v4 ⟨rfl, hb⟩
          have hS4 := Lib.hid (below_then hHeld hb)
          clear hHeld hb
          refine hK.out _ _ ?_ (fun hHeld => ?_)
          · exact hS4.out
          clear hK K
          (try simp only [Act.put, List.setIfInBounds_toArray, List.set_cons_zero, List.set_cons_succ])
          refine wpAnyH_take (i := 15) (oi := { dst := some 127, op := Go.Op.pick (Go.Operand.tmp 123) (Go.Operand.tmp 126) (Go.Operand.const (Go.Value.bool false)), type := 4, pos := "law.go:73", after := #[{ on := 11, ground := Go.Ground.data }, { on := 14, ground := Go.Ground.data }], guard := none }) (v := ?_) rfl (by kernel_rfl) (by kernel_rfl) (by kernel_rfl) (fun _ _ _ h => h) (Or.inl ⟨by rfl, ?_⟩) hHeld ?_
          rotate_left
          · (intro w hSw; go_simp <;> with_reducible rfl)
          simp only [Act.put, List.setIfInBounds_toArray, List.set_cons_zero, List.set_cons_succ]
          refine wpAnyH_take (i := 16) (oi := { dst := some 128, op := Go.Op.move (Go.Operand.tmp 127), type := 4, pos := "law.go:73", after := #[{ on := 15, ground := Go.Ground.data }, { on := 14, ground := Go.Ground.chain }], guard := none }) (v := ?_) rfl (by kernel_rfl) (by kernel_rfl) (by kernel_rfl) (fun _ _ _ h => h) (Or.inl ⟨by rfl, ?_⟩) hHeld ?_
          rotate_left
          · (intro w hSw; go_simp <;> with_reducible rfl)
          simp only [Act.put, List.setIfInBounds_toArray, List.set_cons_zero, List.set_cons_succ]
          refine wpAnyH_take (i := 17) (oi := { dst := some 129, op := Go.Op.move (Go.Operand.tmp 19), type := 34, pos := "law.go:73", after := #[{ on := 16, ground := Go.Ground.guard }], guard := some (16, true) }) (v := ?_) rfl (by kernel_rfl) (by kernel_rfl) (by kernel_rfl) (fun _ _ _ h => h) (Or.inl ⟨by rfl, ?_⟩) hHeld ?_
          rotate_left
          · (intro w hSw; go_simp <;> with_reducible rfl)
          simp only [Act.put, List.setIfInBounds_toArray, List.set_cons_zero, List.set_cons_succ]
          refine wpAnyH_take (i := 18) (oi := { dst := some 130, op := Go.Op.move (Go.Operand.tmp 22), type := 34, pos := "law.go:73", after := #[{ on := 16, ground := Go.Ground.guard }], guard := some (16, true) }) (v := ?_) rfl (by kernel_rfl) (by kernel_rfl) (by kernel_rfl) (fun _ _ _ h => h) (Or.inl ⟨by rfl, ?_⟩) hHeld ?_
          rotate_left
          · (intro w hSw; go_simp <;> with_reducible rfl)
          simp only [Act.put, List.setIfInBounds_toArray, List.set_cons_zero, List.set_cons_succ]
          refine wpAnyH_take (i := 19) (oi := { dst := some 131, op := Go.Op.binOp Go.BinOp.eql 34 (Go.Operand.tmp 129) (Go.Operand.tmp 130) 34, type := 4, pos := "law.go:73", after := #[{ on := 17, ground := Go.Ground.data }, { on := 18, ground := Go.Ground.data }, { on := 16, ground := Go.Ground.guard }], guard := some (16, true) }) (v := ?_) rfl (by kernel_rfl) (by kernel_rfl) (by kernel_rfl) (fun _ _ _ h => h) (Or.inl ⟨by rfl, ?_⟩) hHeld ?_
          rotate_left
          · (intro w hSw; go_simp <;> with_reducible rfl)
          simp only [Act.put, List.setIfInBounds_toArray, List.set_cons_zero, List.set_cons_succ]
          refine wpAnyH_take (i := 20) (oi := { dst := some 132, op := Go.Op.pick (Go.Operand.tmp 128) (Go.Operand.tmp 131) (Go.Operand.const (Go.Value.bool false)), type := 4, pos := "law.go:73", after := #[{ on := 16, ground := Go.Ground.data }, { on := 19, ground := Go.Ground.data }], guard := none }) (v := ?_) rfl (by kernel_rfl) (by kernel_rfl) (by kernel_rfl) (fun _ _ _ h => h) (Or.inl ⟨by rfl, ?_⟩) hHeld ?_
          rotate_left
          · (intro w hSw; go_simp <;> with_reducible rfl)
          simp only [Act.put, List.setIfInBounds_toArray, List.set_cons_zero, List.set_cons_succ]
          refine wpAnyH_take (i := 21) (oi := { dst := some 133, op := Go.Op.move (Go.Operand.tmp 132), type := 4, pos := "law.go:73", after := #[{ on := 20, ground := Go.Ground.data }, { on := 16, ground := Go.Ground.chain }], guard := none }) (v := ?_) rfl (by kernel_rfl) (by kernel_rfl) (by kernel_rfl) (fun _ _ _ h => h) (Or.inl ⟨by rfl, ?_⟩) hHeld ?_
          rotate_left
          · (intro w hSw; go_simp <;> with_reducible rfl)
          simp only [Act.put, List.setIfInBounds_toArray, List.set_cons_zero, List.set_cons_succ]
          refine wpAnyH_take (i := 22) (oi := { dst := some 134, op := Go.Op.load 28 (Go.Operand.tmp 23), type := 28, pos := "law.go:73", after := #[{ on := 21, ground := Go.Ground.guard }], guard := some (21, true) }) (v := ?_) rfl (by kernel_rfl) (by kernel_rfl) (by kernel_rfl) (fun _ _ _ h => h) (Or.inl ⟨by rfl, ?_⟩) hHeld ?_
          rotate_left
          · (intro w hSw; obtain ⟨y0, y1, y2, y3, y4, y5, y6, y7, y8⟩ := (OC14.out.under hSw).cells; simp only at y0 y1 y2 y3 y4 y5 y6 y7 y8; have y9 := blk_lt (OC14.out.under hSw); go_simp <;> with_reducible rfl)
          simp only [Act.put, List.setIfInBounds_toArray, List.set_cons_zero, List.set_cons_succ]
          refine wpAnyH_take (i := 23) (oi := { dst := some 135, op := Go.Op.load 28 (Go.Operand.tmp 25), type := 28, pos := "law.go:73", after := #[{ on := 21, ground := Go.Ground.guard }], guard := some (21, true) }) (v := ?_) rfl (by kernel_rfl) (by kernel_rfl) (by kernel_rfl) (fun _ _ _ h => h) (Or.inl ⟨by rfl, ?_⟩) hHeld ?_
          rotate_left
          · (intro w hSw; obtain ⟨y0, y1, y2, y3, y4, y5, y6, y7, y8⟩ := (OD14.out.under hSw).cells; simp only at y0 y1 y2 y3 y4 y5 y6 y7 y8; have y9 := blk_lt (OD14.out.under hSw); go_simp <;> with_reducible rfl)
          simp only [Act.put, List.setIfInBounds_toArray, List.set_cons_zero, List.set_cons_succ]
          refine wpAnyH_ready (rs := [24]) (by kernel_rfl) (by simp) (AllReadyH.cons (o := { dst := some 136, op := Go.Op.call { callee := Go.Callee.value (Go.Operand.func 39), args := #[Go.Operand.tmp 134, Go.Operand.tmp 135], argTypes := #[28, 28] }, type := 4, pos := "law.go:73", after := #[{ on := 22, ground := Go.Ground.data }, { on := 23, ground := Go.Ground.data }, { on := 21, ground := Go.Ground.chain }, { on := 21, ground := Go.Ground.guard }], guard := some (21, true) }) rfl (fun K hK => ?_) AllReadyH.nil)
          · go_simp
            refine (SQ.out _).mono ?_
            rintro e v5 ⟨rfl, hb⟩
            have hS5 := Lib.hid (below_then hHeld hb)
            clear hHeld hb
            refine hK.out _ _ ?_ (fun hHeld => ?_)
            · exact hS5.out
            clear hK K
            (try simp only [Act.put, List.setIfInBounds_toArray, List.set_cons_zero, List.set_cons_succ])
            refine wpAnyH_take (i := 25) (oi := { dst := some 137, op := Go.Op.pick (Go.Operand.tmp 133) (Go.Operand.tmp 136) (Go.Operand.const (Go.Value.bool false)), type := 4, pos := "law.go:73", after := #[{ on := 21, ground := Go.Ground.data }, { on := 24, ground := Go.Ground.data }], guard := none }) (v := ?_) rfl (by kernel_rfl) (by kernel_rfl) (by kernel_rfl) (fun _ _ _ h => h) (Or.inl ⟨by rfl, ?_⟩) hHeld ?_
            rotate_left
            · (intro w hSw; go_simp <;> with_reducible rfl)
            simp only [Act.put, List.setIfInBounds_toArray, List.set_cons_zero, List.set_cons_succ]
            refine wpAnyH_take (i := 26) (oi := { dst := some 138, op := Go.Op.move (Go.Operand.tmp 137), type := 4, pos := "law.go:73", after := #[{ on := 25, ground := Go.Ground.data }, { on := 24, ground := Go.Ground.chain }], guard := none }) (v := ?_) rfl (by kernel_rfl) (by kernel_rfl) (by kernel_rfl) (fun _ _ _ h => h) (Or.inl ⟨by rfl, ?_⟩) hHeld ?_
            rotate_left
            · (intro w hSw; go_simp <;> with_reducible rfl)
            simp only [Act.put, List.setIfInBounds_toArray, List.set_cons_zero, List.set_cons_succ]
            refine wpAnyH_take (i := 27) (oi := { dst := some 139, op := Go.Op.move (Go.Operand.tmp 24), type := 34, pos := "law.go:73", after := #[{ on := 26, ground := Go.Ground.guard }], guard := some (26, true) }) (v := ?_) rfl (by kernel_rfl) (by kernel_rfl) (by kernel_rfl) (fun _ _ _ h => h) (Or.inl ⟨by rfl, ?_⟩) hHeld ?_
            rotate_left
            · (intro w hSw; go_simp <;> with_reducible rfl)
            simp only [Act.put, List.setIfInBounds_toArray, List.set_cons_zero, List.set_cons_succ]
            refine wpAnyH_take (i := 28) (oi := { dst := some 140, op := Go.Op.move (Go.Operand.tmp 26), type := 34, pos := "law.go:73", after := #[{ on := 26, ground := Go.Ground.guard }], guard := some (26, true) }) (v := ?_) rfl (by kernel_rfl) (by kernel_rfl) (by kernel_rfl) (fun _ _ _ h => h) (Or.inl ⟨by rfl, ?_⟩) hHeld ?_
            rotate_left
            · (intro w hSw; go_simp <;> with_reducible rfl)
            simp only [Act.put, List.setIfInBounds_toArray, List.set_cons_zero, List.set_cons_succ]
            refine wpAnyH_take (i := 29) (oi := { dst := some 141, op := Go.Op.binOp Go.BinOp.eql 34 (Go.Operand.tmp 139) (Go.Operand.tmp 140) 34, type := 4, pos := "law.go:73", after := #[{ on := 27, ground := Go.Ground.data }, { on := 28, ground := Go.Ground.data }, { on := 26, ground := Go.Ground.guard }], guard := some (26, true) }) (v := ?_) rfl (by kernel_rfl) (by kernel_rfl) (by kernel_rfl) (fun _ _ _ h => h) (Or.inl ⟨by rfl, ?_⟩) hHeld ?_
            rotate_left
            · (intro w hSw; go_simp <;> with_reducible rfl)
            simp only [Act.put, List.setIfInBounds_toArray, List.set_cons_zero, List.set_cons_succ]
            refine wpAnyH_take (i := 30) (oi := { dst := some 142, op := Go.Op.pick (Go.Operand.tmp 138) (Go.Operand.tmp 141) (Go.Operand.const (Go.Value.bool false)), type := 4, pos := "law.go:73", after := #[{ on := 26, ground := Go.Ground.data }, { on := 29, ground := Go.Ground.data }], guard := none }) (v := ?_) rfl (by kernel_rfl) (by kernel_rfl) (by kernel_rfl) (fun _ _ _ h => h) (Or.inl ⟨by rfl, ?_⟩) hHeld ?_
            rotate_left
            · (intro w hSw; go_simp <;> with_reducible rfl)
            simp only [Act.put, List.setIfInBounds_toArray, List.set_cons_zero, List.set_cons_succ]
            refine wpAnyH_take (i := 31) (oi := { dst := some 143, op := Go.Op.move (Go.Operand.tmp 142), type := 4, pos := "law.go:73", after := #[{ on := 30, ground := Go.Ground.data }, { on := 26, ground := Go.Ground.chain }], guard := none }) (v := ?_) rfl (by kernel_rfl) (by kernel_rfl) (by kernel_rfl) (fun _ _ _ h => h) (Or.inl ⟨by rfl, ?_⟩) hHeld ?_
            rotate_left
            · (intro w hSw; go_simp <;> with_reducible rfl)
            simp only [Act.put, List.setIfInBounds_toArray, List.set_cons_zero, List.set_cons_succ]
            refine wpAnyH_take (i := 32) (oi := { dst := some 144, op := Go.Op.load 26 (Go.Operand.tmp 9), type := 26, pos := "law.go:73", after := #[{ on := 31, ground := Go.Ground.guard }], guard := some (31, true) }) (v := ?_) rfl (by kernel_rfl) (by kernel_rfl) (by kernel_rfl) (fun _ _ _ h => h) (Or.inl ⟨by rfl, ?_⟩) hHeld ?_
            rotate_left
            · (intro w hSw; obtain ⟨x0, x1, x2, x3, x4, x5, x6⟩ := (P14.out.below hSw).cells; go_simp <;> with_reducible rfl)
            simp only [Act.put, List.setIfInBounds_toArray, List.set_cons_zero, List.set_cons_succ]
            refine wpAnyH_take (i := 34) (oi := { dst := some 146, op := Go.Op.move (Go.Operand.tmp 5), type := 22, pos := "law.go:73", after := #[{ on := 31, ground := Go.Ground.guard }], guard := some (31, true) }) (v := ?_) rfl (by kernel_rfl) (by kernel_rfl) (by kernel_rfl) (fun _ _ _ h => h) (Or.inl ⟨by rfl, ?_⟩) hHeld ?_
            rotate_left
            · (intro w hSw; go_simp <;> with_reducible rfl)
            simp only [Act.put, List.setIfInBounds_toArray, List.set_cons_zero, List.set_cons_succ]
            refine wpAnyH_take (i := 36) (oi := { dst := some 148, op := Go.Op.load 26 (Go.Operand.tmp 9), type := 26, pos := "law.go:73", after := #[{ on := 31, ground := Go.Ground.guard }], guard := some (31, true) }) (v := ?_) rfl (by kernel_rfl) (by kernel_rfl) (by kernel_rfl) (fun _ _ _ h => h) (Or.inl ⟨by rfl, ?_⟩) hHeld ?_
            rotate_left
            · (intro w hSw; obtain ⟨x0, x1, x2, x3, x4, x5, x6⟩ := (P14.out.below hSw).cells; go_simp <;> with_reducible rfl)
            simp only [Act.put, List.setIfInBounds_toArray, List.set_cons_zero, List.set_cons_succ]
            refine wpAnyH_take (i := 37) (oi := { dst := some 149, op := Go.Op.move (Go.Operand.tmp 5), type := 22, pos := "law.go:73", after := #[{ on := 31, ground := Go.Ground.guard }], guard := some (31, true) }) (v := ?_) rfl (by kernel_rfl) (by kernel_rfl) (by kernel_rfl) (fun _ _ _ h => h) (Or.inl ⟨by rfl, ?_⟩) hHeld ?_
            rotate_left
            · (intro w hSw; go_simp <;> with_reducible rfl)
            simp only [Act.put, List.setIfInBounds_toArray, List.set_cons_zero, List.set_cons_succ]
            refine wpAnyH_ready (rs := [33]) (by kernel_rfl) (by simp) (AllReadyH.cons (o := { dst := some 145, op := Go.Op.call { callee := Go.Callee.value (Go.Operand.func 33), args := #[Go.Operand.tmp 144], argTypes := #[26] }, type := 26, pos := "law.go:73", after := #[{ on := 32, ground := Go.Ground.data }, { on := 31, ground := Go.Ground.chain }, { on := 31, ground := Go.Ground.guard }], guard := some (31, true) }) rfl (fun K hK => ?_) AllReadyH.nil)
            · go_simp
              refine (CC.out _ (T14.out.below hHeld)).mono ?_
              rintro e v6 ⟨sv6, rfl, G, hb⟩
              (try simp only at G)
              have DC6 := Lib.hid G
              obtain ⟨DA6, dcp6, hdv6, _, _, _, _⟩ := G
              rw [← HPN.out] at hdv6
              subst hdv6
              have hS6 := Lib.hid (below_then hHeld hb)
              clear hHeld hb
              refine hK.out _ _ ?_ (fun hHeld => ?_)
              · exact hS6.out
              clear hK K
              (try simp only [Act.put, List.setIfInBounds_toArray, List.set_cons_zero, List.set_cons_succ])
              refine wpAnyH_ready (rs := [35]) (by kernel_rfl) (by simp) (AllReadyH.cons (o := { dst := some 147, op := Go.Op.call { callee := Go.Callee.value (Go.Operand.func 29), args := #[Go.Operand.tmp 145, Go.Operand.tmp 146], argTypes := #[26, 22] }, type := 4, pos := "law.go:73", after := #[{ on := 33, ground := Go.Ground.data }, { on := 34, ground := Go.Ground.data }, { on := 33, ground := Go.Ground.chain }, { on := 31, ground := Go.Ground.guard }], guard := some (31, true) }) rfl (fun K hK => ?_) AllReadyH.nil)
              · go_simp
                refine (CI.out _ _ DC6.out).mono ?_
                rintro e v7 ⟨rfl, hb⟩
                have hS7 := Lib.hid (below_then hHeld hb)
                clear hHeld hb
                refine hK.out _ _ ?_ (fun hHeld => ?_)
                · exact hS7.out
                clear hK K
                (try simp only [Act.put, List.setIfInBounds_toArray, List.set_cons_zero, List.set_cons_succ])
                refine wpAnyH_ready (rs := [38]) (by kernel_rfl) (by simp) (AllReadyH.cons (o := { dst := some 150, op := Go.Op.call { callee := Go.Callee.value (Go.Operand.func 40), args := #[Go.Operand.tmp 148, Go.Operand.tmp 149], argTypes := #[26, 22] }, type := 4, pos := "law.go:73", after := #[{ on := 36, ground := Go.Ground.data }, { on := 37, ground := Go.Ground.data }, { on := 35, ground := Go.Ground.chain }, { on := 31, ground := Go.Ground.guard }], guard := some (31, true) }) rfl (fun K hK => ?_) AllReadyH.nil)
                · go_simp
                  refine (RI.out _ (T14.out.below hHeld)).mono ?_
                  rintro e v8 ⟨rfl, hb⟩
                  have hS8 := Lib.hid (below_then hHeld hb)
                  clear hHeld hb
                  refine hK.out _ _ ?_ (fun hHeld => ?_)
                  · exact hS8.out
                  clear hK K
                  (try simp only [Act.put, List.setIfInBounds_toArray, List.set_cons_zero, List.set_cons_succ])
                  refine wpAnyH_take (i := 39) (oi := { dst := some 151, op := Go.Op.binOp Go.BinOp.eql 4 (Go.Operand.tmp 147) (Go.Operand.tmp 150) 4, type := 4, pos := "law.go:73", after := #[{ on := 35, ground := Go.Ground.data }, { on := 38, ground := Go.Ground.data }, { on := 31, ground := Go.Ground.guard }], guard := some (31, true) }) (v := ?_) rfl (by kernel_rfl) (by kernel_rfl) (by kernel_rfl) (fun _ _ _ h => h) (Or.inl ⟨by rfl, ?_⟩) hHeld ?_
                  rotate_left
                  · (intro w hSw; go_simp <;> with_reducible rfl)
                  simp only [Act.put, List.setIfInBounds_toArray, List.set_cons_zero, List.set_cons_succ]
                  refine wpAnyH_take (i := 40) (oi := { dst := some 152, op := Go.Op.pick (Go.Operand.tmp 143) (Go.Operand.tmp 151) (Go.Operand.const (Go.Value.bool false)), type := 4, pos := "law.go:73", after := #[{ on := 31, ground := Go.Ground.data }, { on := 39, ground := Go.Ground.data }], guard := none }) (v := ?_) rfl (by kernel_rfl) (by kernel_rfl) (by kernel_rfl) (fun _ _ _ h => h) (Or.inl ⟨by rfl, ?_⟩) hHeld ?_
                  rotate_left
                  · (intro w hSw; go_simp <;> with_reducible rfl)
                  simp only [Act.put, List.setIfInBounds_toArray, List.set_cons_zero, List.set_cons_succ]
                  refine wpAnyH_take (i := 41) (oi := { dst := some 153, op := Go.Op.move (Go.Operand.tmp 152), type := 4, pos := "law.go:73", after := #[{ on := 40, ground := Go.Ground.data }, { on := 38, ground := Go.Ground.chain }], guard := none }) (v := ?_) rfl (by kernel_rfl) (by kernel_rfl) (by kernel_rfl) (fun _ _ _ h => h) (Or.inl ⟨by rfl, ?_⟩) hHeld ?_
                  rotate_left
                  · (intro w hSw; go_simp <;> with_reducible rfl)
                  simp only [Act.put, List.setIfInBounds_toArray, List.set_cons_zero, List.set_cons_succ]
                  refine wpAnyH_take (i := 42) (oi := { dst := some 154, op := Go.Op.load 26 (Go.Operand.tmp 9), type := 26, pos := "law.go:73", after := #[{ on := 41, ground := Go.Ground.guard }], guard := some (41, true) }) (v := ?_) rfl (by kernel_rfl) (by kernel_rfl) (by kernel_rfl) (fun _ _ _ h => h) (Or.inl ⟨by rfl, ?_⟩) hHeld ?_
                  rotate_left
                  · (intro w hSw; obtain ⟨x0, x1, x2, x3, x4, x5, x6⟩ := (P14.out.below hSw).cells; go_simp <;> with_reducible rfl)
                  simp only [Act.put, List.setIfInBounds_toArray, List.set_cons_zero, List.set_cons_succ]
                  refine wpAnyH_take (i := 45) (oi := { dst := some 157, op := Go.Op.move (Go.Operand.tmp 29), type := 55, pos := "law.go:73", after := #[{ on := 41, ground := Go.Ground.guard }], guard := some (41, true) }) (v := ?_) rfl (by kernel_rfl) (by kernel_rfl) (by kernel_rfl) (fun _ _ _ h => h) (Or.inl ⟨by rfl, ?_⟩) hHeld ?_
                  rotate_left
                  · (intro w hSw; go_simp <;> with_reducible rfl)
                  simp only [Act.put, List.setIfInBounds_toArray, List.set_cons_zero, List.set_cons_succ]
                  refine wpAnyH_ready (rs := [43]) (by kernel_rfl) (by simp) (AllReadyH.cons (o := { dst := some 155, op := Go.Op.call { callee := Go.Callee.value (Go.Operand.func 33), args := #[Go.Operand.tmp 154], argTypes := #[26] }, type := 26, pos := "law.go:73", after := #[{ on := 42, ground := Go.Ground.data }, { on := 41, ground := Go.Ground.chain }, { on := 41, ground := Go.Ground.guard }], guard := some (41, true) }) rfl (fun K hK => ?_) AllReadyH.nil)
                  · go_simp
                    refine (CC.out _ (T14.out.below hHeld)).mono ?_
                    rintro e v9 ⟨sv9, rfl, G, hb⟩
                    (try simp only at G)
                    have DC9 := Lib.hid G
                    obtain ⟨DA9, dcp9, hdv9, _, _, _, _⟩ := G
                    rw [← HPN.out] at hdv9
                    subst hdv9
                    have hS9 := Lib.hid (below_then hHeld hb)
                    clear hHeld hb
                    refine hK.out _ _ ?_ (fun hHeld => ?_)
                    · exact hS9.out
                    clear hK K
                    (try simp only [Act.put, List.setIfInBounds_toArray, List.set_cons_zero, List.set_cons_succ])
                    refine wpAnyH_ready (rs := [44]) (by kernel_rfl) (by simp) (AllReadyH.cons (o := { dst := some 156, op := Go.Op.call { callee := Go.Callee.value (Go.Operand.func 42), args := #[Go.Operand.tmp 155], argTypes := #[26] }, type := 55, pos := "law.go:73", after := #[{ on := 43, ground := Go.Ground.data }, { on := 43, ground := Go.Ground.chain }, { on := 41, ground := Go.Ground.guard }], guard := some (41, true) }) rfl (fun K hK => ?_) AllReadyH.nil)
                    · go_simp
                      refine (CL.out _ _ DC9.out).mono ?_
                      rintro e v10 ⟨vL10, rfl, hNL10, hb⟩
                      have NLL10 := Lib.hid hNL10
                      clear hNL10
                      have hS10 := Lib.hid (below_then hHeld hb)
                      clear hHeld hb
                      refine hK.out _ _ ?_ (fun hHeld => ?_)
                      · exact hS10.out
                      clear hK K
                      (try simp only [Act.put, List.setIfInBounds_toArray, List.set_cons_zero, List.set_cons_succ])
                      refine wpAnyH_ready (rs := [46]) (by kernel_rfl) (by simp) (AllReadyH.cons (o := { dst := some 158, op := Go.Op.call { callee := Go.Callee.value (Go.Operand.func 41), args := #[Go.Operand.tmp 156, Go.Operand.tmp 157], argTypes := #[55, 55] }, type := 4, pos := "law.go:73", after := #[{ on := 44, ground := Go.Ground.data }, { on := 45, ground := Go.Ground.data }, { on := 44, ground := Go.Ground.chain }, { on := 41, ground := Go.Ground.guard }], guard := some (41, true) }) rfl (fun K hK => ?_) AllReadyH.nil)
                      · go_simp
                        refine (numbers16_any _ _ L _ NLL10.out (NL14.out.below hHeld) (by rw [← HLN.out]; have := hln1024; omega)).mono ?_
                        rintro e v11 ⟨rfl, hb⟩
                        have hS11 := Lib.hid (below_then hHeld hb)
                        clear hHeld hb
                        refine hK.out _ _ ?_ (fun hHeld => ?_)
                        · exact hS11.out
                        clear hK K
                        (try simp only [Act.put, List.setIfInBounds_toArray, List.set_cons_zero, List.set_cons_succ])
                        refine wpAnyH_take (i := 47) (oi := { dst := some 159, op := Go.Op.pick (Go.Operand.tmp 153) (Go.Operand.tmp 158) (Go.Operand.const (Go.Value.bool false)), type := 4, pos := "law.go:73", after := #[{ on := 41, ground := Go.Ground.data }, { on := 46, ground := Go.Ground.data }], guard := none }) (v := ?_) rfl (by kernel_rfl) (by kernel_rfl) (by kernel_rfl) (fun _ _ _ h => h) (Or.inl ⟨by rfl, ?_⟩) hHeld ?_
                        rotate_left
                        · (intro w hSw; go_simp <;> with_reducible rfl)
                        simp only [Act.put, List.setIfInBounds_toArray, List.set_cons_zero, List.set_cons_succ]
                        refine wpAnyH_take (i := 48) (oi := { dst := some 160, op := Go.Op.move (Go.Operand.tmp 159), type := 4, pos := "law.go:73", after := #[{ on := 47, ground := Go.Ground.data }, { on := 46, ground := Go.Ground.chain }], guard := none }) (v := ?_) rfl (by kernel_rfl) (by kernel_rfl) (by kernel_rfl) (fun _ _ _ h => h) (Or.inl ⟨by rfl, ?_⟩) hHeld ?_
                        rotate_left
                        · (intro w hSw; go_simp <;> with_reducible rfl)
                        simp only [Act.put, List.setIfInBounds_toArray, List.set_cons_zero, List.set_cons_succ]
                        refine wpAnyH_take (i := 49) (oi := { dst := some 161, op := Go.Op.move (Go.Operand.tmp 27), type := 3, pos := "law.go:73", after := #[{ on := 48, ground := Go.Ground.guard }], guard := some (48, true) }) (v := ?_) rfl (by kernel_rfl) (by kernel_rfl) (by kernel_rfl) (fun _ _ _ h => h) (Or.inl ⟨by rfl, ?_⟩) hHeld ?_
                        rotate_left
                        · (intro w hSw; go_simp <;> with_reducible rfl)
                        simp only [Act.put, List.setIfInBounds_toArray, List.set_cons_zero, List.set_cons_succ]
                        refine wpAnyH_take (i := 50) (oi := { dst := some 162, op := Go.Op.move (Go.Operand.tmp 30), type := 3, pos := "law.go:73", after := #[{ on := 48, ground := Go.Ground.guard }], guard := some (48, true) }) (v := ?_) rfl (by kernel_rfl) (by kernel_rfl) (by kernel_rfl) (fun _ _ _ h => h) (Or.inl ⟨by rfl, ?_⟩) hHeld ?_
                        rotate_left
                        · (intro w hSw; go_simp <;> with_reducible rfl)
                        simp only [Act.put, List.setIfInBounds_toArray, List.set_cons_zero, List.set_cons_succ]
                        refine wpAnyH_take (i := 51) (oi := { dst := some 163, op := Go.Op.binOp Go.BinOp.eql 3 (Go.Operand.tmp 161) (Go.Operand.tmp 162) 3, type := 4, pos := "law.go:73", after := #[{ on := 49, ground := Go.Ground.data }, { on := 50, ground := Go.Ground.data }, { on := 48, ground := Go.Ground.guard }], guard := some (48, true) }) (v := ?_) rfl (by kernel_rfl) (by kernel_rfl) (by kernel_rfl) (fun _ _ _ h => h) (Or.inl ⟨by rfl, ?_⟩) hHeld ?_
                        rotate_left
                        · (intro w hSw; go_simp <;> with_reducible rfl)
                        simp only [Act.put, List.setIfInBounds_toArray, List.set_cons_zero, List.set_cons_succ]
                        refine wpAnyH_take (i := 52) (oi := { dst := some 164, op := Go.Op.pick (Go.Operand.tmp 160) (Go.Operand.tmp 163) (Go.Operand.const (Go.Value.bool false)), type := 4, pos := "law.go:73", after := #[{ on := 48, ground := Go.Ground.data }, { on := 51, ground := Go.Ground.data }], guard := none }) (v := ?_) rfl (by kernel_rfl) (by kernel_rfl) (by kernel_rfl) (fun _ _ _ h => h) (Or.inl ⟨by rfl, ?_⟩) hHeld ?_
                        rotate_left
                        · (intro w hSw; go_simp <;> with_reducible rfl)
                        simp only [Act.put, List.setIfInBounds_toArray, List.set_cons_zero, List.set_cons_succ]
                        refine wpAnyH_take (i := 53) (oi := { dst := some 165, op := Go.Op.move (Go.Operand.tmp 164), type := 4, pos := "law.go:73", after := #[{ on := 52, ground := Go.Ground.data }, { on := 48, ground := Go.Ground.chain }], guard := none }) (v := ?_) rfl (by kernel_rfl) (by kernel_rfl) (by kernel_rfl) (fun _ _ _ h => h) (Or.inl ⟨by rfl, ?_⟩) hHeld ?_
                        rotate_left
                        · (intro w hSw; go_simp <;> with_reducible rfl)
                        simp only [Act.put, List.setIfInBounds_toArray, List.set_cons_zero, List.set_cons_succ]
                        refine wpAnyH_take (i := 54) (oi := { dst := some 166, op := Go.Op.move (Go.Operand.tmp 28), type := 3, pos := "law.go:73", after := #[{ on := 53, ground := Go.Ground.guard }], guard := some (53, true) }) (v := ?_) rfl (by kernel_rfl) (by kernel_rfl) (by kernel_rfl) (fun _ _ _ h => h) (Or.inl ⟨by rfl, ?_⟩) hHeld ?_
                        rotate_left
                        · (intro w hSw; go_simp <;> with_reducible rfl)
                        simp only [Act.put, List.setIfInBounds_toArray, List.set_cons_zero, List.set_cons_succ]
                        refine wpAnyH_take (i := 55) (oi := { dst := some 167, op := Go.Op.move (Go.Operand.tmp 31), type := 3, pos := "law.go:73", after := #[{ on := 53, ground := Go.Ground.guard }], guard := some (53, true) }) (v := ?_) rfl (by kernel_rfl) (by kernel_rfl) (by kernel_rfl) (fun _ _ _ h => h) (Or.inl ⟨by rfl, ?_⟩) hHeld ?_
                        rotate_left
                        · (intro w hSw; go_simp <;> with_reducible rfl)
                        simp only [Act.put, List.setIfInBounds_toArray, List.set_cons_zero, List.set_cons_succ]
                        refine wpAnyH_take (i := 56) (oi := { dst := some 168, op := Go.Op.binOp Go.BinOp.eql 3 (Go.Operand.tmp 166) (Go.Operand.tmp 167) 3, type := 4, pos := "law.go:73", after := #[{ on := 54, ground := Go.Ground.data }, { on := 55, ground := Go.Ground.data }, { on := 53, ground := Go.Ground.guard }], guard := some (53, true) }) (v := ?_) rfl (by kernel_rfl) (by kernel_rfl) (by kernel_rfl) (fun _ _ _ h => h) (Or.inl ⟨by rfl, ?_⟩) hHeld ?_
                        rotate_left
                        · (intro w hSw; go_simp <;> with_reducible rfl)
                        simp only [Act.put, List.setIfInBounds_toArray, List.set_cons_zero, List.set_cons_succ]
                        refine wpAnyH_take (i := 57) (oi := { dst := some 169, op := Go.Op.pick (Go.Operand.tmp 165) (Go.Operand.tmp 168) (Go.Operand.const (Go.Value.bool false)), type := 4, pos := "law.go:73", after := #[{ on := 53, ground := Go.Ground.data }, { on := 56, ground := Go.Ground.data }], guard := none }) (v := ?_) rfl (by kernel_rfl) (by kernel_rfl) (by kernel_rfl) (fun _ _ _ h => h) (Or.inl ⟨by rfl, ?_⟩) hHeld ?_
                        rotate_left
                        · (intro w hSw; go_simp <;> with_reducible rfl)
                        simp only [Act.put, List.setIfInBounds_toArray, List.set_cons_zero, List.set_cons_succ]
                        refine wpAnyH_take (i := 58) (oi := { dst := some 170, op := Go.Op.move (Go.Operand.tmp 169), type := 4, pos := "law.go:73", after := #[{ on := 57, ground := Go.Ground.data }, { on := 53, ground := Go.Ground.chain }], guard := none }) (v := ?_) rfl (by kernel_rfl) (by kernel_rfl) (by kernel_rfl) (fun _ _ _ h => h) (Or.inl ⟨by rfl, ?_⟩) hHeld ?_
                        rotate_left
                        · (intro w hSw; go_simp <;> with_reducible rfl)
                        simp only [Act.put, List.setIfInBounds_toArray, List.set_cons_zero, List.set_cons_succ]
                        refine wpAnyH_ready (rs := [59]) (by kernel_rfl) (by simp) (AllReadyH.cons (o := { dst := some 171, op := Go.Op.call { callee := Go.Callee.value (Go.Operand.func 25), args := #[], argTypes := #[] }, type := 4, pos := "law.go:73", after := #[{ on := 58, ground := Go.Ground.chain }, { on := 58, ground := Go.Ground.guard }], guard := some (58, true) }) rfl (fun K hK => ?_) AllReadyH.nil)
                        · go_simp
                          refine (AL.out _).mono ?_
                          rintro e v12 ⟨rfl, hb⟩
                          have hS12 := Lib.hid (below_then hHeld hb)
                          clear hHeld hb
                          refine hK.out _ _ ?_ (fun hHeld => ?_)
                          · exact hS12.out
                          clear hK K
                          (try simp only [Act.put, List.setIfInBounds_toArray, List.set_cons_zero, List.set_cons_succ])
                          refine wpAnyH_take (i := 60) (oi := { dst := some 172, op := Go.Op.pick (Go.Operand.tmp 170) (Go.Operand.tmp 171) (Go.Operand.const (Go.Value.bool false)), type := 4, pos := "law.go:73", after := #[{ on := 58, ground := Go.Ground.data }, { on := 59, ground := Go.Ground.data }], guard := none }) (v := ?_) rfl (by kernel_rfl) (by kernel_rfl) (by kernel_rfl) (fun _ _ _ h => h) (Or.inl ⟨by rfl, ?_⟩) hHeld ?_
                          rotate_left
                          · (intro w hSw; go_simp <;> with_reducible rfl)
                          simp only [Act.put, List.setIfInBounds_toArray, List.set_cons_zero, List.set_cons_succ]
                          refine wpAnyH_take (i := 61) (oi := { dst := some 12, op := Go.Op.assign (Go.Operand.tmp 172), type := 4, pos := "law.go:73", after := #[{ on := 60, ground := Go.Ground.data }, { on := 59, ground := Go.Ground.chain }, { on := 0, ground := Go.Ground.phase }, { on := 1, ground := Go.Ground.phase }, { on := 2, ground := Go.Ground.phase }, { on := 3, ground := Go.Ground.phase }, { on := 4, ground := Go.Ground.phase }, { on := 5, ground := Go.Ground.phase }, { on := 6, ground := Go.Ground.phase }, { on := 7, ground := Go.Ground.phase }, { on := 8, ground := Go.Ground.phase }, { on := 9, ground := Go.Ground.phase }, { on := 10, ground := Go.Ground.phase }, { on := 11, ground := Go.Ground.phase }, { on := 12, ground := Go.Ground.phase }, { on := 13, ground := Go.Ground.phase }, { on := 14, ground := Go.Ground.phase }, { on := 15, ground := Go.Ground.phase }, { on := 16, ground := Go.Ground.phase }, { on := 17, ground := Go.Ground.phase }, { on := 18, ground := Go.Ground.phase }, { on := 19, ground := Go.Ground.phase }, { on := 20, ground := Go.Ground.phase }, { on := 21, ground := Go.Ground.phase }, { on := 22, ground := Go.Ground.phase }, { on := 23, ground := Go.Ground.phase }, { on := 24, ground := Go.Ground.phase }, { on := 25, ground := Go.Ground.phase }, { on := 26, ground := Go.Ground.phase }, { on := 27, ground := Go.Ground.phase }, { on := 28, ground := Go.Ground.phase }, { on := 29, ground := Go.Ground.phase }, { on := 30, ground := Go.Ground.phase }, { on := 31, ground := Go.Ground.phase }, { on := 32, ground := Go.Ground.phase }, { on := 33, ground := Go.Ground.phase }, { on := 34, ground := Go.Ground.phase }, { on := 35, ground := Go.Ground.phase }, { on := 36, ground := Go.Ground.phase }, { on := 37, ground := Go.Ground.phase }, { on := 38, ground := Go.Ground.phase }, { on := 39, ground := Go.Ground.phase }, { on := 40, ground := Go.Ground.phase }, { on := 41, ground := Go.Ground.phase }, { on := 42, ground := Go.Ground.phase }, { on := 43, ground := Go.Ground.phase }, { on := 44, ground := Go.Ground.phase }, { on := 45, ground := Go.Ground.phase }, { on := 46, ground := Go.Ground.phase }, { on := 47, ground := Go.Ground.phase }, { on := 48, ground := Go.Ground.phase }, { on := 49, ground := Go.Ground.phase }, { on := 50, ground := Go.Ground.phase }, { on := 51, ground := Go.Ground.phase }, { on := 52, ground := Go.Ground.phase }, { on := 53, ground := Go.Ground.phase }, { on := 54, ground := Go.Ground.phase }, { on := 55, ground := Go.Ground.phase }, { on := 56, ground := Go.Ground.phase }, { on := 57, ground := Go.Ground.phase }, { on := 58, ground := Go.Ground.phase }, { on := 59, ground := Go.Ground.phase }, { on := 60, ground := Go.Ground.phase }], guard := none }) (v := ?_) rfl (by kernel_rfl) (by kernel_rfl) (by kernel_rfl) (fun _ _ _ h => h) (Or.inl ⟨by rfl, ?_⟩) hHeld ?_
                          rotate_left
                          · (intro w hSw; go_simp <;> with_reducible rfl)
                          simp only [Act.put, List.setIfInBounds_toArray, List.set_cons_zero, List.set_cons_succ]
                          refine wpAnyH_done (by kernel_rfl) ?_ _
                          go_wp2_with fail
                          go_ret
                          exact ⟨rfl, below_then B14.out hHeld⟩

end Go.Proofs.Ytienlhnbmobinaa
