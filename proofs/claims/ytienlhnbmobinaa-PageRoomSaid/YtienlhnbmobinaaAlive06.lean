/- pentimentolaw06.alive -/
import Derived.Test.YtienlhnbmobinaaRows
import Derived.Test.YtienlhnbmobinaaPageDecode
import Derived.Test.YtienlhnbmobinaaPageEncode
import Derived.Test.YtienlhnbmobinaaPageSame06
import Derived.Test.YtienlhnbmobinaaPagePlain
import Derived.Test.YtienlhnbmobinaaBase
import Derived.Test.YtienlhnbmobinaaPlains
import Derived.Test.YtienlhnbmobinaaTextsP
import Derived.Test.YtienlhnbmobinaaRefSeal
import Derived.Test.YtienlhnbmobinaaSum
import Derived.Deep.CutBlock
import Derived.WalkKit
import Derived.WalkLawsBesides
import Derived.WalkSpells
import Derived.LoopTactic
import Derived.WalkMore
import Derived.LoopN
import Derived.Laws.BitsAllLaws
import Derived.Laws.IdiomStrings
import Derived.BigQuiet
import Derived.Deep.QuietTactic
import Derived.Deep.DeepCutAuto
import Derived.Deep.RegionHeld3
import Derived.Deep.DrawnRows
import Derived.Lib.Hide
import Derived.Outline
import Derived.Deep.DeepMust
import Derived.Handy
namespace Go.Proofs.Ytienlhnbmobinaa
open Go.RowKit
set_option linter.unusedVariables false
set_option linter.unusedSimpArgs false

def zP1 : Pg := ⟨1, 0, 7, 300, 9, [[97, 98], []]⟩
def zP2 : Pg := ⟨0, 0, 1, 0, 0, []⟩
theorem zP1_may : zP1.may = true := by decide +kernel
theorem zP0_may : Pg.zero.may = false := by decide +kernel
theorem zP1_wf : zP1.wf := by unfold Pg.wf; decide +kernel
theorem zP2_wf : zP2.wf := by unfold Pg.wf; decide +kernel
theorem zP0_wf : Pg.zero.wf := by unfold Pg.wf; decide +kernel
theorem zEnc : pgEnc zP1 = (encPg zP1, 0) := by unfold pgEnc; rw [if_pos zP1_may]
theorem zEnc0 : pgEnc Pg.zero = ([], 2) := by unfold pgEnc; rw [if_neg (by rw [zP0_may]; decide)]
theorem zDec : pgDec (encPg zP1) = (zP1, 0) := by
  have h := pg_back zP1_may zP1_wf
  rw [pgDec_ok h.1, h.2]
theorem zDecX : pgDec (encPg zP1 ++ [120]) = (Pg.zero, 60) := pgDec_no (fun h => by
  have h1 := h.1
  have h2 := encPg_length zP1_may
  rw [List.length_append, h2] at h1
  exact absurd h1 (by decide))
theorem zRoom1 : roomB zP1.rows = 470 := by decide +kernel
theorem zRoom2 : roomB zP2.rows = 480 := by decide +kernel
theorem zTexts (w : World) : TextsAt (w.alloc (.cells #[.string ⟨#[97, 98]⟩, .string ⟨#[]⟩] 9)) (.slice (some ⟨w.heap.size, 0, none⟩) 2 2) zP1.rows := by
  refine ⟨_, 2, rfl, by decide, by unfold maxLen; decide, (fun h => by cases h), fun _ => ⟨w.heap.size, 0, rfl, by rw [World.size_alloc]; omega, fun j hj => ?_⟩⟩
  have hj2 : j < 2 := hj
  rw [cell_of_row _ _ _ _ _ _ (heap_alloc_new w _)]
  rcases (by omega : j = 0 ∨ j = 1) with rfl | rfl <;> rfl
set_option maxHeartbeats 4000000 in
set_option maxRecDepth 100000 in
theorem alive06_any (w : World) : Calls Try.prog 43 #[] w fun e w' => e = .returned (.bool true) ∧ Below w.heap.size w w' := by
  have T0 := Lib.hid (zTexts w)
  have B0 := Lib.hid (alloc_below w (.cells #[.string ⟨#[97, 98]⟩, .string ⟨#[]⟩] 9))
  have T1 := Lib.hid (T0.out.below (alloc_below (w.alloc (.cells #[.string ⟨#[97, 98]⟩, .string ⟨#[]⟩] 9)) (.cells #[.int .u8 1, .int .u8 0, .int .u32 7, .int .u64 300, .int .u32 9, (.slice (some ⟨w.heap.size, 0, none⟩) 2 2)] 26)))
  have Q1 : PgBox ((w.alloc (.cells #[.string ⟨#[97, 98]⟩, .string ⟨#[]⟩] 9)).alloc (.cells #[.int .u8 1, .int .u8 0, .int .u32 7, .int .u64 300, .int .u32 9, (.slice (some ⟨w.heap.size, 0, none⟩) 2 2)] 26)) (w.alloc (.cells #[.string ⟨#[97, 98]⟩, .string ⟨#[]⟩] 9)).heap.size 1 0 7 300 9 (.slice (some ⟨w.heap.size, 0, none⟩) 2 2) := PgBox.new _ _ _ _ _ _ _
  have hz1 : (w.alloc (.cells #[.string ⟨#[97, 98]⟩, .string ⟨#[]⟩] 9)).heap.size = w.heap.size + 1 := by simp
  rw [hz1] at Q1
  have B1 := Lib.hid (B0.out.alloc B0.out.size (.cells #[.int .u8 1, .int .u8 0, .int .u32 7, .int .u64 300, .int .u32 9, (.slice (some ⟨w.heap.size, 0, none⟩) 2 2)] 26))
  have EN := Lib.hid fun W (h : TextsAt W (.slice (some ⟨w.heap.size, 0, none⟩) 2 2) zP1.rows) => pageEncode_any zP1 (.slice (some ⟨w.heap.size, 0, none⟩) 2 2) W zP1_wf h (by decide +kernel)
  rw [zEnc] at EN
  have E0 := Lib.hid fun W => pageEncode_any Pg.zero (.slice none 0 0) W zP0_wf (TextsAt.nil _) (by decide +kernel)
  rw [zEnc0] at E0
  have DC := Lib.hid fun W => pageDecode_any (encPg zP1) W (by rw [encPg_length zP1_may]; decide)
  rw [zDec] at DC
  have DX := Lib.hid fun W => pageDecode_any (encPg zP1 ++ [120]) W (by rw [List.length_append, encPg_length zP1_may]; decide)
  rw [zDecX, ← byt_app] at DX
  have SM := Lib.hid fun W sv (h : TextsAt W (.slice (some ⟨w.heap.size, 0, none⟩) 2 2) zP1.rows) (h2 : TextsAt W sv zP1.rows) => pageSame_any zP1 zP1 (.slice (some ⟨w.heap.size, 0, none⟩) 2 2) sv W h h2 (by decide) (by decide)
  rw [decide_eq_true rfl] at SM
  have R1 := Lib.hid fun W (h : TextsAt W (.slice (some ⟨w.heap.size, 0, none⟩) 2 2) zP1.rows) => pageRoom_any zP1 (.slice (some ⟨w.heap.size, 0, none⟩) 2 2) W h (by decide +kernel)
  rw [zRoom1] at R1
  have R2 := Lib.hid fun W => pageRoom_any zP2 (.slice none 0 0) W (TextsAt.nil _) (by decide +kernel)
  rw [zRoom2] at R2
  have hl := encPg_length zP1_may
  have hsl : (⟨(encPg zP1).toArray⟩ : ByteArray).size = (encPg zP1).length := rfl
  generalize encPg zP1 = S at *
  simp only [pgV] at EN E0 SM R1 R2
  simp only [zP1, zP2, Pg.zero] at EN E0 SM R1 R2
  go_enter Try.func43, Try.ntmps43
  go_wp2_with fail
  refine (EN.out _ T1.out).mono ?_
  rintro e w2 ⟨rfl, hb⟩
  have T2 := Lib.hid (T1.out.below hb)
  have Q2 := Q1.below hb
  have B2 := Lib.hid (below_then B1.out hb)
  clear hb EN T0 B0 T1 B1 Q1
  go_wp2_with fail
  refine (DC.out _).mono ?_
  rintro e w3 ⟨sv, rfl, ht, hb⟩
  have T3 := Lib.hid (T2.out.below hb)
  have Q3 := Q2.below hb
  have B3 := Lib.hid (below_then B2.out hb)
  replace ht : TextsAt w3 sv zP1.rows := ht
  obtain ⟨A3, c3, hv3, _⟩ := (id ht)
  have hv4 : sv = .slice A3 2 c3 := hv3
  subst hv4
  simp only [zP1, pgV]
  have U4 := Lib.hid (ht.below (alloc_below w3 (.cells #[.int .u8 1, .int .u8 0, .int .u32 7, .int .u64 300, .int .u32 9, (.slice A3 2 c3)] 26)))
  have T4 := Lib.hid (T3.out.below (alloc_below w3 (.cells #[.int .u8 1, .int .u8 0, .int .u32 7, .int .u64 300, .int .u32 9, (.slice A3 2 c3)] 26)))
  have Q4 := Q3.below (alloc_below w3 (.cells #[.int .u8 1, .int .u8 0, .int .u32 7, .int .u64 300, .int .u32 9, (.slice A3 2 c3)] 26))
  have B4 := Lib.hid (B3.out.alloc B3.out.size (.cells #[.int .u8 1, .int .u8 0, .int .u32 7, .int .u64 300, .int .u32 9, (.slice A3 2 c3)] 26))
  have V4 : PgBox (w3.alloc (.cells #[.int .u8 1, .int .u8 0, .int .u32 7, .int .u64 300, .int .u32 9, (.slice A3 2 c3)] 26)) w3.heap.size 1 0 7 300 9 (.slice A3 2 c3) := PgBox.new _ _ _ _ _ _ _
  clear hb ht hv3 DC Q2 Q3 T2 T3 B2 B3
  go_wp2_with fail
  refine (E0.out _).mono ?_
  rintro e w5 ⟨rfl, hb⟩
  have U5 := Lib.hid (U4.out.below hb)
  have T5 := Lib.hid (T4.out.below hb)
  have Q5 := Q4.below hb
  have V5 := V4.below hb
  have B5 := Lib.hid (below_then B4.out hb)
  clear hb U4 T4 Q4 V4 B4 E0
  go_wp2_with fail
  refine (DX.out _).mono ?_
  rintro e w6 ⟨sv6, rfl, ht6, hb⟩
  replace ht6 : TextsAt w6 sv6 [] := ht6
  obtain ⟨A6, c6, hv6, _⟩ := ht6
  have hv7 : sv6 = .slice A6 0 c6 := hv6
  subst hv7
  simp only [Pg.zero, pgV]
  have U7 := Lib.hid ((U5.out.below hb).below (alloc_below w6 (.cells #[.int .u8 0, .int .u8 0, .int .u32 0, .int .u64 0, .int .u32 0, (.slice A6 0 c6)] 26)))
  have T7 := Lib.hid ((T5.out.below hb).below (alloc_below w6 (.cells #[.int .u8 0, .int .u8 0, .int .u32 0, .int .u64 0, .int .u32 0, (.slice A6 0 c6)] 26)))
  have Q7 := (Q5.below hb).below (alloc_below w6 (.cells #[.int .u8 0, .int .u8 0, .int .u32 0, .int .u64 0, .int .u32 0, (.slice A6 0 c6)] 26))
  have V7 := (V5.below hb).below (alloc_below w6 (.cells #[.int .u8 0, .int .u8 0, .int .u32 0, .int .u64 0, .int .u32 0, (.slice A6 0 c6)] 26))
  have B7x := Lib.hid (below_then B5.out hb)
  have B7 := Lib.hid (B7x.out.alloc B7x.out.size (.cells #[.int .u8 0, .int .u8 0, .int .u32 0, .int .u64 0, .int .u32 0, (.slice A6 0 c6)] 26))
  clear hb hv6 DX U5 T5 Q5 V5 B5 B7x
  obtain ⟨hg1, y0, y1, y2, y3, y4, y5⟩ := Q7.cells
  obtain ⟨hg2, z0, z1, z2, z3, z4, z5⟩ := V7.cells
  go_wp2_with fail
  refine (SM.out _ _ T7.out U7.out).mono ?_
  rintro e w8 ⟨rfl, hb⟩
  have T8 := Lib.hid (T7.out.below hb)
  have Q8 := Q7.below hb
  have B8 := Lib.hid (below_then B7.out hb)
  clear hb y0 y1 y2 y3 y4 y5 z0 z1 z2 z3 z4 z5 hg1 hg2 V7 Q7 T7 U7 B7 SM
  go_wp2_with fail
  refine (R2.out _).mono ?_
  rintro e w9 ⟨rfl, hb⟩
  have T9 := Lib.hid (T8.out.below hb)
  have Q9 := Q8.below hb
  have B9 := Lib.hid (below_then B8.out hb)
  obtain ⟨hg1, y0, y1, y2, y3, y4, y5⟩ := Q9.cells
  clear hb T8 Q8 B8 R2
  go_wp2_with fail
  refine (R1.out _ T9.out).mono ?_
  rintro e wA ⟨rfl, hb⟩
  have BA := Lib.hid (below_then B9.out hb)
  clear hb y0 y1 y2 y3 y4 y5 hg1 T9 Q9 B9 R1
  go_wp2_with fail
  go_ret
  exact ⟨rfl, BA.out⟩

end Go.Proofs.Ytienlhnbmobinaa
