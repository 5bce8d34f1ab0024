/- the law PageReads, walked -/
import Derived.Test.YtienlhnbmobinaaRows
import Derived.Test.YtienlhnbmobinaaNodeWeigh
import Derived.Test.YtienlhnbmobinaaAlive06
import Derived.Test.YtienlhnbmobinaaRefEnc06
import Derived.Test.YtienlhnbmobinaaRefDec06
import Derived.Test.YtienlhnbmobinaaPageTorn06
import Derived.Test.YtienlhnbmobinaaPageDecode
import Derived.Test.YtienlhnbmobinaaPageEncode
import Derived.Test.YtienlhnbmobinaaPageSame06
import Derived.Test.YtienlhnbmobinaaPagePlain
import Derived.Test.YtienlhnbmobinaaBase
import Derived.Test.YtienlhnbmobinaaPlains
import Derived.Test.YtienlhnbmobinaaTextsP
import Derived.Test.YtienlhnbmobinaaRefSeal
import Derived.Test.YtienlhnbmobinaaSum
import Derived.Deep.CutBlock
import Derived.WalkKit
import Derived.WalkLawsBesides
import Derived.WalkSpells
import Derived.LoopTactic
import Derived.WalkMore
import Derived.LoopN
import Derived.Laws.BitsAllLaws
import Derived.Laws.IdiomStrings
import Derived.BigQuiet
import Derived.Deep.QuietTactic
import Derived.Deep.DeepCutAuto
import Derived.Deep.RegionHeld3
import Derived.Deep.DrawnRows
import Derived.Lib.Hide
import Derived.Outline
import Derived.Deep.DeepMust
import Derived.Handy
namespace Go.Proofs.Ytienlhnbmobinaa
open Go.RowKit
set_option linter.unusedVariables false
set_option linter.unusedSimpArgs false

set_option maxHeartbeats 8000000 in
set_option maxRecDepth 100000 in
theorem pageReadsLaw_any (s old now : List UInt8) (kv : Value) (ks : List Bool) (w : World) (hs : s.length ≤ 140737488351232) (ho : old.length ≤ 140737488351232) (hn : now.length ≤ 140737488351232) (hk : BlAt w kv ks) :
    Calls Try.prog 10 #[.string ⟨s.toArray⟩, .string ⟨old.toArray⟩, .string ⟨now.toArray⟩, kv] w fun e w' => e = .returned (.bool true) ∧ Below w.heap.size w w' := by
  have AL := Lib.hid fun W => alive06_any W
  have hss : (⟨s.toArray⟩ : ByteArray).size = s.length := rfl
  have hso : (⟨old.toArray⟩ : ByteArray).size = old.length := rfl
  have hsn : (⟨now.toArray⟩ : ByteArray).size = now.length := rfl
  obtain ⟨KA, kc, hkv, hk2, hk3, hk4, hk5⟩ := (id hk)
  obtain ⟨kn, hkn⟩ : ∃ z, z = ks.length := ⟨_, rfl⟩
  rw [← hkn] at hkv hk2
  subst hkv
  unfold maxLen at hk3
  have HKN := Lib.hid hkn
  have HK := Lib.hid hk
  clear hkn hk hk4 hk5
  obtain ⟨i0, hif, hz0, hz1x, hz2⟩ := info_parts (show (Try.prog.info? 4).map (fun i => (i.zero, i.size, i.bytes)) = some (some (.bool false), 1, 1) by kernel_rfl)
  have HI := Lib.hid hif
  have HI0 := Lib.hid hz0
  have HI1 := Lib.hid hz1x
  have HI2 := Lib.hid hz2
  clear hif hz0 hz1x hz2
  by_cases c1 : s.length ≤ 2048
  case neg =>
    have c1i : (2048 : Int) < (s.length : Int) := by omega
    go_enter Try.func10, Try.ntmps10
    go_wp2_with fail
    refine (AL.out _).mono ?_
    rintro e wa ⟨rfl, hba⟩
    have Ba := Lib.hid hba
    clear hba
    go_wp2_with fail
    go_ret
    exact ⟨rfl, Ba.out⟩
  have c1i : ¬ (2048 : Int) < (s.length : Int) := by omega
  by_cases c2 : old.length ≤ 2048
  case neg =>
    have c2i : (2048 : Int) < (old.length : Int) := by omega
    go_enter Try.func10, Try.ntmps10
    go_wp2_with fail
    refine (AL.out _).mono ?_
    rintro e wa ⟨rfl, hba⟩
    have Ba := Lib.hid hba
    clear hba
    go_wp2_with fail
    go_ret
    exact ⟨rfl, Ba.out⟩
  have c2i : ¬ (2048 : Int) < (old.length : Int) := by omega
  by_cases c3 : now.length ≤ 2048
  case neg =>
    have c3i : (2048 : Int) < (now.length : Int) := by omega
    go_enter Try.func10, Try.ntmps10
    go_wp2_with fail
    refine (AL.out _).mono ?_
    rintro e wa ⟨rfl, hba⟩
    have Ba := Lib.hid hba
    clear hba
    go_wp2_with fail
    go_ret
    exact ⟨rfl, Ba.out⟩
  have c3i : ¬ (2048 : Int) < (now.length : Int) := by omega
  by_cases c4 : kn ≤ 20
  case neg =>
    have c4i : (20 : Int) < (kn : Int) := by omega
    go_enter Try.func10, Try.ntmps10
    go_wp2_with fail
    refine (AL.out _).mono ?_
    rintro e wa ⟨rfl, hba⟩
    have Ba := Lib.hid hba
    clear hba
    go_wp2_with fail
    go_ret
    exact ⟨rfl, Ba.out⟩
  have c4i : ¬ (20 : Int) < (kn : Int) := by omega
  have C1 := Lib.hid fun W => pageDecode_any s W (by omega)
  have C2 := Lib.hid fun W => refDecode06_any s W (by omega)
  have C3 := Lib.hid fun W v (h : BlAt W v ks) => pageTorn_any old now ks v W h (by omega) (by omega)
  have C4 := Lib.hid fun W v (h : BlAt W v ks) => refTorn_any old now ks v W h (by omega) (by omega)
  obtain ⟨⟨⟨pa, pb, pc, pd, pe, rowsP⟩, er⟩, hP⟩ : ∃ P, P = pgDec s := ⟨_, rfl⟩
  obtain ⟨⟨tt, tc⟩, hT⟩ : ∃ P, P = tornB old now ks := ⟨_, rfl⟩
  rw [← hP] at C1 C2
  rw [← hT] at C3 C4
  simp only at C3 C4
  have e1 : (er == er) = true := by simp
  have e2 : (tt == tt) = true := by simp
  have e3 : (tc == tc) = true := by simp
  have B0 := Lib.hid (Below.refl w.heap.size w)
  have K0 := HK
  clear hP hT HK
  obtain ⟨w0, hw0⟩ : ∃ W, W = w := ⟨_, rfl⟩
  rw [← hw0] at K0
  have B0 : Hid (Below w.heap.size w w0) := by rw [hw0]; exact B0
  have hgo : Calls Try.prog 10 #[.string ⟨s.toArray⟩, .string ⟨old.toArray⟩, .string ⟨now.toArray⟩, .slice KA kn kc] w0 fun e w' => e = .returned (.bool true) ∧ Below w.heap.size w w' := by
    clear hw0
    go_enter Try.func10, Try.ntmps10
    go_wp2_with fail
    refine (C1.out _).mono ?_
    rintro e w1 ⟨sv1, rfl, G, hb⟩
    simp only at G
    obtain ⟨np, hnp⟩ : ∃ z, z = rowsP.length := ⟨_, rfl⟩
    have Hnp := Lib.hid hnp
    clear hnp
    have G1 := Lib.hid G
    obtain ⟨A1, cp1, hv1, _, _, _, _⟩ := G
    rw [← Hnp.out] at hv1
    subst hv1
    have B1 := Lib.hid (below_then B0.out hb)
    have K1 := Lib.hid (K0.out.below hb)
    clear hb B0 K0
    unfold pgV
    simp only
    go_upto_region 4 with fail
    have BN := Lib.hid (alloc_below w1 (.cells #[.int .u8 pa, .int .u8 pb, .int .u32 pc, .int .u64 pd, .int .u32 pe, .slice A1 np cp1] 26))
    have D2 := Lib.hid (PgBox.new w1 pa pb pc pd pe (.slice A1 np cp1))
    generalize w1.alloc (.cells #[.int .u8 pa, .int .u8 pb, .int .u32 pc, .int .u64 pd, .int .u32 pe, .slice A1 np cp1] 26) = w2 at *
    have hb := BN.out
    clear BN
    have B2 := Lib.hid (below_then B1.out hb)
    have K2 := Lib.hid (K1.out.below hb)
    have G2 := Lib.hid (G1.out.below hb)
    clear hb B1 K1 G1
    obtain ⟨z0, z1, z2, z3, z4, z5, z6⟩ := D2.out.cells
    go_wp2_with fail
    clear z0 z1 z2 z3 z4 z5 z6
    refine (C2.out _).mono ?_
    rintro e w3 ⟨sv3, rfl, G, hb⟩
    simp only at G
    have H3 := Lib.hid G
    obtain ⟨A3, cp3, hv3, _, _, _, _⟩ := G
    rw [← Hnp.out] at hv3
    subst hv3
    have B3 := Lib.hid (below_then B2.out hb)
    have K3 := Lib.hid (K2.out.below hb)
    have G3 := Lib.hid (G2.out.below hb)
    have D3 := Lib.hid (D2.out.below hb)
    clear hb B2 K2 G2 D2
    obtain ⟨z0, z1, z2, z3, z4, z5, z6⟩ := D3.out.cells
    unfold pgV
    simp only
    go_upto_region 5 with fail
    clear z0 z1 z2 z3 z4 z5 z6
    have BN := Lib.hid (alloc_below w3 (.cells #[.int .u8 pa, .int .u8 pb, .int .u32 pc, .int .u64 pd, .int .u32 pe, .slice A3 np cp3] 26))
    have E4 := Lib.hid (PgBox.new w3 pa pb pc pd pe (.slice A3 np cp3))
    generalize w3.alloc (.cells #[.int .u8 pa, .int .u8 pb, .int .u32 pc, .int .u64 pd, .int .u32 pe, .slice A3 np cp3] 26) = w4 at *
    have hb := BN.out
    clear BN
    have B4 := Lib.hid (below_then B3.out hb)
    have K4 := Lib.hid (K3.out.below hb)
    have G4 := Lib.hid (G3.out.below hb)
    have D4 := Lib.hid (D3.out.below hb)
    have H4 := Lib.hid (H3.out.below hb)
    clear hb B3 K3 G3 D3 H3
    go_upto_region 5 with fail
    go_cut [13, 14] (fun sa sb w' => sa = .string ⟨(tt).toArray⟩ ∧ sb = .int .i64 tc ∧ Hid (Below w4.heap.size w4 w'))
    case first =>
      have TA := Lib.hid (K4.out.below (alloc_below w4 (.cells #[] 4))).reads
      rw [← HKN.out] at TA
      clear AL C4 B4
      go_wp2_with (at_builtin; refine wpList_append_any _ rfl _ _ 47 rfl w4.heap.size 4 i0 (.bool false) 1 1 Try.underlying47 HI.out HI0.out HI1.out HI2.out rfl (by decide) (.slice (some ⟨w4.heap.size, 0, none⟩) 0 0) 0 [] (by rfl) (World.ownsRow_made w4 #[] 0 (Nat.le_refl _) (by unfold maxLen; omega) rfl) (.slice KA kn kc) kn (bls ks) (by rfl) TA.out (bls_oneCell _) (by unfold maxLen; omega) (by omega) (by simp) ?_; intro vx wx hownx hgrowx; have HOX := Lib.hid hownx; have HGX := Lib.hid hgrowx; clear hownx hgrowx)
      have hownx := HOX.out
      simp only [Nat.zero_add, List.nil_append] at hownx
      have hb := (alloc_below w4 (.cells #[] 4)).grown HGX.out (by simp) (fun j hj => by simp [Value.ownBlock] at hj; omega)
      have VX := Lib.hid (bl_own hownx).1
      refine (C3.out _ _ VX.out).mono ?_
      rintro e wy ⟨rfl, hby⟩
      have hbz := Lib.hid (below_then hb hby)
      clear HOX HGX hownx hb VX hby TA C3
      go_wp2_with fail
      go_meet
      exact ⟨rfl, rfl, hbz⟩
    case rest =>
    obtain ⟨rfl, rfl, hbc⟩ := hcut
    generalize wc = w5 at *
    have hb := hbc.out
    clear hbc C3
    have B5 := Lib.hid (below_then B4.out hb)
    have K5 := Lib.hid (K4.out.below hb)
    have G5 := Lib.hid (G4.out.below hb)
    have D5 := Lib.hid (D4.out.below hb)
    have H5 := Lib.hid (H4.out.below hb)
    have E5 := Lib.hid (E4.out.below hb)
    clear hb B4 K4 G4 D4 H4 E4
    obtain ⟨z0, z1, z2, z3, z4, z5, z6⟩ := D5.out.cells
    obtain ⟨y0, y1, y2, y3, y4, y5, y6⟩ := E5.out.cells
    go_wp2_with fail
    clear z0 z1 z2 z3 z4 z5 z6 y0 y1 y2 y3 y4 y5 y6
    refine (C4.out _ _ K5.out).mono ?_
    rintro e w6 ⟨rfl, hb⟩
    have B6 := Lib.hid (below_then B5.out hb)
    have K6 := Lib.hid (K5.out.below hb)
    have G6 := Lib.hid (G5.out.below hb)
    have D6 := Lib.hid (D5.out.below hb)
    have H6 := Lib.hid (H5.out.below hb)
    have E6 := Lib.hid (E5.out.below hb)
    clear hb B5 K5 G5 D5 H5 E5
    obtain ⟨z0, z1, z2, z3, z4, z5, z6⟩ := D6.out.cells
    obtain ⟨y0, y1, y2, y3, y4, y5, y6⟩ := E6.out.cells
    go_wp2_with fail
    clear z0 z1 z2 z3 z4 z5 z6 y0 y1 y2 y3 y4 y5 y6
    refine (refSame06_eq ⟨pa, pb, pc, pd, pe, rowsP⟩ (.slice A1 np cp1) (.slice A3 np cp3) _ G6.out H6.out).mono ?_
    rintro e w7 ⟨rfl, hb⟩
    have B7 := Lib.hid (below_then B6.out hb)
    have K7 := Lib.hid (K6.out.below hb)
    have G7 := Lib.hid (G6.out.below hb)
    have D7 := Lib.hid (D6.out.below hb)
    have H7 := Lib.hid (H6.out.below hb)
    have E7 := Lib.hid (E6.out.below hb)
    clear hb B6 K6 G6 D6 H6 E6
    obtain ⟨z0, z1, z2, z3, z4, z5, z6⟩ := D7.out.cells
    obtain ⟨y0, y1, y2, y3, y4, y5, y6⟩ := E7.out.cells
    go_wp2_with fail
    clear z0 z1 z2 z3 z4 z5 z6 y0 y1 y2 y3 y4 y5 y6
    refine (AL.out _).mono ?_
    rintro e w8 ⟨rfl, hb⟩
    have B8 := Lib.hid (below_then B7.out hb)
    have K8 := Lib.hid (K7.out.below hb)
    have G8 := Lib.hid (G7.out.below hb)
    have D8 := Lib.hid (D7.out.below hb)
    have H8 := Lib.hid (H7.out.below hb)
    have E8 := Lib.hid (E7.out.below hb)
    clear hb B7 K7 G7 D7 H7 E7
    go_wp2_with fail
    go_ret
    exact ⟨rfl, B8.out⟩
  rw [hw0] at hgo
  exact hgo

end Go.Proofs.Ytienlhnbmobinaa
