/- chapter 06: the parts of a page's head -/
import Derived.Test.YtienlhnbmobinaaRows
import Derived.Test.YtienlhnbmobinaaPageNum
import Derived.Test.YtienlhnbmobinaaBase
import Derived.Test.YtienlhnbmobinaaPlains
import Derived.Test.YtienlhnbmobinaaTextsP
import Derived.Test.YtienlhnbmobinaaWordWalks
import Derived.Test.YtienlhnbmobinaaOpWord
import Derived.Test.YtienlhnbmobinaaOpPlain
import Derived.Deep.CutBlock
import Derived.WalkKit
import Derived.WalkLawsBesides
import Derived.WalkSpells
import Derived.LoopTactic
import Derived.WalkMore
import Derived.LoopN
import Derived.Laws.BitsAllLaws
import Derived.Laws.IdiomStrings
import Derived.BigQuiet
import Derived.Deep.QuietTactic
import Derived.Deep.DeepCutAuto
import Derived.Deep.RegionHeld3
import Derived.Deep.DrawnRows
import Derived.Lib.Hide
import Derived.Outline
import Derived.Deep.DeepMust
import Derived.Handy
namespace Go.Proofs.Ytienlhnbmobinaa
open Go.RowKit
set_option linter.unusedVariables false
set_option linter.unusedSimpArgs false

theorem HdAt.put_kind {w : World} {g kind level id lsn next at_ : Nat} {sv : Value} {s : List UInt8} {rd bad : Bool} (h : HdAt w g kind level id lsn next sv s at_ rd bad) (x : Nat) : HdAt (w.setCell ⟨g, 0, none⟩ (.int .u8 x)) g x level id lsn next sv s at_ rd bad := by
  unfold HdAt at *
  have h2 := blk_set h 0 (.int .u8 x)
  simpa using h2
set_option maxHeartbeats 2000000 in
theorem hmW_kind (w : World) (g kind level id lsn next at_ : Nat) (sv : Value) (s : List UInt8) (hH : HdAt w g kind level id lsn next sv s at_ false false) (hx : kind < 256) (hs : s.length ≤ 100000) :
    Calls Try.prog 150 #[.pointer (some ⟨g, 0, none⟩)] w fun e w' => e = .returned (.tuple #[]) ∧ HdAt w' g kind level id lsn next sv (s ++ be 1 kind) at_ false false ∧ OthersKept w w' (fun j => j = g) := by
  have C := Lib.hid (hnW_u8 w g g 0 kind kind level id lsn next at_ sv s hH (by first | exact hH.cells.1 | exact hH.cells.2.1 | exact hH.cells.2.2.1 | exact hH.cells.2.2.2.1 | exact hH.cells.2.2.2.2.1) (by simpa using hx) hs)
  clear hH
  go_enter Try.func150, Try.ntmps150
  go_wp2_with fail
  refine C.out.mono ?_
  rintro e w1 ⟨rfl, h1, h2⟩
  have H1 := Lib.hid h1
  have H2 := Lib.hid h2
  clear h1 h2 C
  go_wp2_with fail
  refine bodyPost_end (results_none rfl _ _ _) rfl ?_
  exact ⟨rfl, H1.out, H2.out⟩
set_option maxHeartbeats 2000000 in
theorem hmR_kind (w : World) (g kind level id lsn next at_ : Nat) (sv : Value) (s : List UInt8) (hH : HdAt w g kind level id lsn next sv s at_ true false) (hin : at_ + 1 ≤ s.length) (hs : s.length ≤ 100000) :
    Calls Try.prog 150 #[.pointer (some ⟨g, 0, none⟩)] w fun e w' => e = .returned (.tuple #[]) ∧ HdAt w' g (rdNum s at_ 1) level id lsn next sv s (at_ + 1) true false ∧ OthersKept w w' (fun j => j = g) := by
  have C := Lib.hid (hnR_u8 w g 0 kind kind level id lsn next at_ sv s hH (by first | exact hH.cells.1 | exact hH.cells.2.1 | exact hH.cells.2.2.1 | exact hH.cells.2.2.2.1 | exact hH.cells.2.2.2.2.1) (hH.fr 0) (by omega) hin hs)
  have HH := Lib.hid hH
  clear hH
  go_enter Try.func150, Try.ntmps150
  go_wp2_with fail
  refine C.out.mono ?_
  rintro e w1 ⟨rfl, wm, hb, hw⟩
  have H1 : Hid (HdAt w1 g (rdNum s at_ 1) level id lsn next sv s (at_ + 1) true false) := Lib.hid (by rw [hw]; exact ((HH.out.below hb).put_kind _).put97 false (at_ + 1))
  have H2 : Hid (OthersKept w w1 (fun j => j = g)) := Lib.hid (by
    rw [hw]
    exact (((OthersKept.of_below (p := fun j => j = g) hb).trans (one_kept wm g 0 _) (fun _ _ h => h)).trans (one_kept _ g 9 _) (fun _ _ h => h)).trans (one_kept _ g 7 _) (fun _ _ h => h))
  clear hb hw C
  go_wp2_with fail
  refine bodyPost_end (results_none rfl _ _ _) rfl ?_
  exact ⟨rfl, H1.out, H2.out⟩
theorem HdAt.put_level {w : World} {g kind level id lsn next at_ : Nat} {sv : Value} {s : List UInt8} {rd bad : Bool} (h : HdAt w g kind level id lsn next sv s at_ rd bad) (x : Nat) : HdAt (w.setCell ⟨g, 1, none⟩ (.int .u8 x)) g kind x id lsn next sv s at_ rd bad := by
  unfold HdAt at *
  have h2 := blk_set h 1 (.int .u8 x)
  simpa using h2
set_option maxHeartbeats 2000000 in
theorem hmW_level (w : World) (g kind level id lsn next at_ : Nat) (sv : Value) (s : List UInt8) (hH : HdAt w g kind level id lsn next sv s at_ false false) (hx : level < 256) (hs : s.length ≤ 100000) :
    Calls Try.prog 151 #[.pointer (some ⟨g, 0, none⟩)] w fun e w' => e = .returned (.tuple #[]) ∧ HdAt w' g kind level id lsn next sv (s ++ be 1 level) at_ false false ∧ OthersKept w w' (fun j => j = g) := by
  have C := Lib.hid (hnW_u8 w g g 1 level kind level id lsn next at_ sv s hH (by first | exact hH.cells.1 | exact hH.cells.2.1 | exact hH.cells.2.2.1 | exact hH.cells.2.2.2.1 | exact hH.cells.2.2.2.2.1) (by simpa using hx) hs)
  clear hH
  go_enter Try.func151, Try.ntmps151
  go_wp2_with fail
  refine C.out.mono ?_
  rintro e w1 ⟨rfl, h1, h2⟩
  have H1 := Lib.hid h1
  have H2 := Lib.hid h2
  clear h1 h2 C
  go_wp2_with fail
  refine bodyPost_end (results_none rfl _ _ _) rfl ?_
  exact ⟨rfl, H1.out, H2.out⟩
set_option maxHeartbeats 2000000 in
theorem hmR_level (w : World) (g kind level id lsn next at_ : Nat) (sv : Value) (s : List UInt8) (hH : HdAt w g kind level id lsn next sv s at_ true false) (hin : at_ + 1 ≤ s.length) (hs : s.length ≤ 100000) :
    Calls Try.prog 151 #[.pointer (some ⟨g, 0, none⟩)] w fun e w' => e = .returned (.tuple #[]) ∧ HdAt w' g kind (rdNum s at_ 1) id lsn next sv s (at_ + 1) true false ∧ OthersKept w w' (fun j => j = g) := by
  have C := Lib.hid (hnR_u8 w g 1 level kind level id lsn next at_ sv s hH (by first | exact hH.cells.1 | exact hH.cells.2.1 | exact hH.cells.2.2.1 | exact hH.cells.2.2.2.1 | exact hH.cells.2.2.2.2.1) (hH.fr 1) (by omega) hin hs)
  have HH := Lib.hid hH
  clear hH
  go_enter Try.func151, Try.ntmps151
  go_wp2_with fail
  refine C.out.mono ?_
  rintro e w1 ⟨rfl, wm, hb, hw⟩
  have H1 : Hid (HdAt w1 g kind (rdNum s at_ 1) id lsn next sv s (at_ + 1) true false) := Lib.hid (by rw [hw]; exact ((HH.out.below hb).put_level _).put97 false (at_ + 1))
  have H2 : Hid (OthersKept w w1 (fun j => j = g)) := Lib.hid (by
    rw [hw]
    exact (((OthersKept.of_below (p := fun j => j = g) hb).trans (one_kept wm g 1 _) (fun _ _ h => h)).trans (one_kept _ g 9 _) (fun _ _ h => h)).trans (one_kept _ g 7 _) (fun _ _ h => h))
  clear hb hw C
  go_wp2_with fail
  refine bodyPost_end (results_none rfl _ _ _) rfl ?_
  exact ⟨rfl, H1.out, H2.out⟩
theorem HdAt.put_id {w : World} {g kind level id lsn next at_ : Nat} {sv : Value} {s : List UInt8} {rd bad : Bool} (h : HdAt w g kind level id lsn next sv s at_ rd bad) (x : Nat) : HdAt (w.setCell ⟨g, 2, none⟩ (.int .u32 x)) g kind level x lsn next sv s at_ rd bad := by
  unfold HdAt at *
  have h2 := blk_set h 2 (.int .u32 x)
  simpa using h2
set_option maxHeartbeats 2000000 in
theorem hmW_id (w : World) (g kind level id lsn next at_ : Nat) (sv : Value) (s : List UInt8) (hH : HdAt w g kind level id lsn next sv s at_ false false) (hx : id < 256 ^ 4) (hs : s.length ≤ 100000) :
    Calls Try.prog 152 #[.pointer (some ⟨g, 0, none⟩)] w fun e w' => e = .returned (.tuple #[]) ∧ HdAt w' g kind level id lsn next sv (s ++ be 4 id) at_ false false ∧ OthersKept w w' (fun j => j = g) := by
  have C := Lib.hid (hnW_u32 w g g 2 id kind level id lsn next at_ sv s hH (by first | exact hH.cells.1 | exact hH.cells.2.1 | exact hH.cells.2.2.1 | exact hH.cells.2.2.2.1 | exact hH.cells.2.2.2.2.1) (by simpa using hx) hs)
  clear hH
  go_enter Try.func152, Try.ntmps152
  go_wp2_with fail
  refine C.out.mono ?_
  rintro e w1 ⟨rfl, h1, h2⟩
  have H1 := Lib.hid h1
  have H2 := Lib.hid h2
  clear h1 h2 C
  go_wp2_with fail
  refine bodyPost_end (results_none rfl _ _ _) rfl ?_
  exact ⟨rfl, H1.out, H2.out⟩
set_option maxHeartbeats 2000000 in
theorem hmR_id (w : World) (g kind level id lsn next at_ : Nat) (sv : Value) (s : List UInt8) (hH : HdAt w g kind level id lsn next sv s at_ true false) (hin : at_ + 4 ≤ s.length) (hs : s.length ≤ 100000) :
    Calls Try.prog 152 #[.pointer (some ⟨g, 0, none⟩)] w fun e w' => e = .returned (.tuple #[]) ∧ HdAt w' g kind level (rdNum s at_ 4) lsn next sv s (at_ + 4) true false ∧ OthersKept w w' (fun j => j = g) := by
  have C := Lib.hid (hnR_u32 w g 2 id kind level id lsn next at_ sv s hH (by first | exact hH.cells.1 | exact hH.cells.2.1 | exact hH.cells.2.2.1 | exact hH.cells.2.2.2.1 | exact hH.cells.2.2.2.2.1) (hH.fr 2) (by omega) hin hs)
  have HH := Lib.hid hH
  clear hH
  go_enter Try.func152, Try.ntmps152
  go_wp2_with fail
  refine C.out.mono ?_
  rintro e w1 ⟨rfl, wm, hb, hw⟩
  have H1 : Hid (HdAt w1 g kind level (rdNum s at_ 4) lsn next sv s (at_ + 4) true false) := Lib.hid (by rw [hw]; exact ((HH.out.below hb).put_id _).put97 false (at_ + 4))
  have H2 : Hid (OthersKept w w1 (fun j => j = g)) := Lib.hid (by
    rw [hw]
    exact (((OthersKept.of_below (p := fun j => j = g) hb).trans (one_kept wm g 2 _) (fun _ _ h => h)).trans (one_kept _ g 9 _) (fun _ _ h => h)).trans (one_kept _ g 7 _) (fun _ _ h => h))
  clear hb hw C
  go_wp2_with fail
  refine bodyPost_end (results_none rfl _ _ _) rfl ?_
  exact ⟨rfl, H1.out, H2.out⟩
theorem HdAt.put_lsn {w : World} {g kind level id lsn next at_ : Nat} {sv : Value} {s : List UInt8} {rd bad : Bool} (h : HdAt w g kind level id lsn next sv s at_ rd bad) (x : Nat) : HdAt (w.setCell ⟨g, 3, none⟩ (.int .u64 x)) g kind level id x next sv s at_ rd bad := by
  unfold HdAt at *
  have h2 := blk_set h 3 (.int .u64 x)
  simpa using h2
set_option maxHeartbeats 2000000 in
theorem hmW_lsn (w : World) (g kind level id lsn next at_ : Nat) (sv : Value) (s : List UInt8) (hH : HdAt w g kind level id lsn next sv s at_ false false) (hx : lsn < 256 ^ 8) (hs : s.length ≤ 100000) :
    Calls Try.prog 153 #[.pointer (some ⟨g, 0, none⟩)] w fun e w' => e = .returned (.tuple #[]) ∧ HdAt w' g kind level id lsn next sv (s ++ be 8 lsn) at_ false false ∧ OthersKept w w' (fun j => j = g) := by
  have C := Lib.hid (hnW_u64 w g g 3 lsn kind level id lsn next at_ sv s hH (by first | exact hH.cells.1 | exact hH.cells.2.1 | exact hH.cells.2.2.1 | exact hH.cells.2.2.2.1 | exact hH.cells.2.2.2.2.1) (by simpa using hx) hs)
  clear hH
  go_enter Try.func153, Try.ntmps153
  go_wp2_with fail
  refine C.out.mono ?_
  rintro e w1 ⟨rfl, h1, h2⟩
  have H1 := Lib.hid h1
  have H2 := Lib.hid h2
  clear h1 h2 C
  go_wp2_with fail
  refine bodyPost_end (results_none rfl _ _ _) rfl ?_
  exact ⟨rfl, H1.out, H2.out⟩
set_option maxHeartbeats 2000000 in
theorem hmR_lsn (w : World) (g kind level id lsn next at_ : Nat) (sv : Value) (s : List UInt8) (hH : HdAt w g kind level id lsn next sv s at_ true false) (hin : at_ + 8 ≤ s.length) (hs : s.length ≤ 100000) :
    Calls Try.prog 153 #[.pointer (some ⟨g, 0, none⟩)] w fun e w' => e = .returned (.tuple #[]) ∧ HdAt w' g kind level id (rdNum s at_ 8) next sv s (at_ + 8) true false ∧ OthersKept w w' (fun j => j = g) := by
  have C := Lib.hid (hnR_u64 w g 3 lsn kind level id lsn next at_ sv s hH (by first | exact hH.cells.1 | exact hH.cells.2.1 | exact hH.cells.2.2.1 | exact hH.cells.2.2.2.1 | exact hH.cells.2.2.2.2.1) (hH.fr 3) (by omega) hin hs)
  have HH := Lib.hid hH
  clear hH
  go_enter Try.func153, Try.ntmps153
  go_wp2_with fail
  refine C.out.mono ?_
  rintro e w1 ⟨rfl, wm, hb, hw⟩
  have H1 : Hid (HdAt w1 g kind level id (rdNum s at_ 8) next sv s (at_ + 8) true false) := Lib.hid (by rw [hw]; exact ((HH.out.below hb).put_lsn _).put97 false (at_ + 8))
  have H2 : Hid (OthersKept w w1 (fun j => j = g)) := Lib.hid (by
    rw [hw]
    exact (((OthersKept.of_below (p := fun j => j = g) hb).trans (one_kept wm g 3 _) (fun _ _ h => h)).trans (one_kept _ g 9 _) (fun _ _ h => h)).trans (one_kept _ g 7 _) (fun _ _ h => h))
  clear hb hw C
  go_wp2_with fail
  refine bodyPost_end (results_none rfl _ _ _) rfl ?_
  exact ⟨rfl, H1.out, H2.out⟩
theorem HdAt.put_next {w : World} {g kind level id lsn next at_ : Nat} {sv : Value} {s : List UInt8} {rd bad : Bool} (h : HdAt w g kind level id lsn next sv s at_ rd bad) (x : Nat) : HdAt (w.setCell ⟨g, 4, none⟩ (.int .u32 x)) g kind level id lsn x sv s at_ rd bad := by
  unfold HdAt at *
  have h2 := blk_set h 4 (.int .u32 x)
  simpa using h2
set_option maxHeartbeats 2000000 in
theorem hmW_next (w : World) (g kind level id lsn next at_ : Nat) (sv : Value) (s : List UInt8) (hH : HdAt w g kind level id lsn next sv s at_ false false) (hx : next < 256 ^ 4) (hs : s.length ≤ 100000) :
    Calls Try.prog 154 #[.pointer (some ⟨g, 0, none⟩)] w fun e w' => e = .returned (.tuple #[]) ∧ HdAt w' g kind level id lsn next sv (s ++ be 4 next) at_ false false ∧ OthersKept w w' (fun j => j = g) := by
  have C := Lib.hid (hnW_u32 w g g 4 next kind level id lsn next at_ sv s hH (by first | exact hH.cells.1 | exact hH.cells.2.1 | exact hH.cells.2.2.1 | exact hH.cells.2.2.2.1 | exact hH.cells.2.2.2.2.1) (by simpa using hx) hs)
  clear hH
  go_enter Try.func154, Try.ntmps154
  go_wp2_with fail
  refine C.out.mono ?_
  rintro e w1 ⟨rfl, h1, h2⟩
  have H1 := Lib.hid h1
  have H2 := Lib.hid h2
  clear h1 h2 C
  go_wp2_with fail
  refine bodyPost_end (results_none rfl _ _ _) rfl ?_
  exact ⟨rfl, H1.out, H2.out⟩
set_option maxHeartbeats 2000000 in
theorem hmR_next (w : World) (g kind level id lsn next at_ : Nat) (sv : Value) (s : List UInt8) (hH : HdAt w g kind level id lsn next sv s at_ true false) (hin : at_ + 4 ≤ s.length) (hs : s.length ≤ 100000) :
    Calls Try.prog 154 #[.pointer (some ⟨g, 0, none⟩)] w fun e w' => e = .returned (.tuple #[]) ∧ HdAt w' g kind level id lsn (rdNum s at_ 4) sv s (at_ + 4) true false ∧ OthersKept w w' (fun j => j = g) := by
  have C := Lib.hid (hnR_u32 w g 4 next kind level id lsn next at_ sv s hH (by first | exact hH.cells.1 | exact hH.cells.2.1 | exact hH.cells.2.2.1 | exact hH.cells.2.2.2.1 | exact hH.cells.2.2.2.2.1) (hH.fr 4) (by omega) hin hs)
  have HH := Lib.hid hH
  clear hH
  go_enter Try.func154, Try.ntmps154
  go_wp2_with fail
  refine C.out.mono ?_
  rintro e w1 ⟨rfl, wm, hb, hw⟩
  have H1 : Hid (HdAt w1 g kind level id lsn (rdNum s at_ 4) sv s (at_ + 4) true false) := Lib.hid (by rw [hw]; exact ((HH.out.below hb).put_next _).put97 false (at_ + 4))
  have H2 : Hid (OthersKept w w1 (fun j => j = g)) := Lib.hid (by
    rw [hw]
    exact (((OthersKept.of_below (p := fun j => j = g) hb).trans (one_kept wm g 4 _) (fun _ _ h => h)).trans (one_kept _ g 9 _) (fun _ _ h => h)).trans (one_kept _ g 7 _) (fun _ _ h => h))
  clear hb hw C
  go_wp2_with fail
  refine bodyPost_end (results_none rfl _ _ _) rfl ?_
  exact ⟨rfl, H1.out, H2.out⟩
set_option maxHeartbeats 2000000 in
set_option maxRecDepth 100000 in
theorem hmW_none (w : World) (g kind level id lsn next at_ : Nat) (sv : Value) (s : List UInt8) (hH : HdAt w g kind level id lsn next sv s at_ false false) (hs : s.length ≤ 100000) :
    Calls Try.prog 155 #[.pointer (some ⟨g, 0, none⟩)] w fun e w' => e = .returned (.tuple #[]) ∧ HdAt w' g kind level id lsn next sv (s ++ be 2 0) at_ false false ∧ OthersKept w w' (fun j => j = g) := by
  have HH := Lib.hid hH
  have hgl := hH.lt
  obtain ⟨W, hW⟩ : ∃ W, W = w.alloc (.cells #[.int .u32 0] 22) := ⟨_, rfl⟩
  have b0 : Below w.heap.size w W := by rw [hW]; exact alloc_below _ _
  have N0 : W.heap[w.heap.size]? = some (.cells #[.int .u32 0] 22 (0, 0)) := by rw [hW]; exact heap_alloc_new w _
  have C := Lib.hid (hnW_two W g w.heap.size 0 0 kind level id lsn next at_ sv s (hH.below b0) (by rw [blk_cell N0]; rfl) (by decide) hs)
  have HB := Lib.hid b0
  have HN0 := Lib.hid N0
  clear hH b0 N0
  go_enter Try.func155, Try.ntmps155
  go_upto_region 1 with fail
  rw [← hW]
  clear hW
  go_wp2_with fail
  refine C.out.mono ?_
  rintro e w1 ⟨rfl, h1, h2⟩
  have H1 := Lib.hid h1
  have H2 := Lib.hid h2
  have n1 : w1.cell? ⟨w.heap.size, 0, none⟩ = some (.int .u32 0) := by
    rw [blk_cell (h2.heap HN0.out (fun e => by omega))]; rfl
  clear h1 h2 C
  obtain ⟨h0, h1, h2, h3, h4, h5, h6, h7, h8, h9⟩ := H1.out.cells
  have f9 := H1.out.fr 9
  clear h0 h1 h2 h3 h4 h5 h6 h7 h8
  have HP := Lib.hid (show HdAt (w1.setCell ⟨g, 9, none⟩ (.bool false)) g kind level id lsn next sv (s ++ be 2 0) at_ false false from by
    have h := H1.out
    unfold HdAt at *
    have h2 := blk_set h 9 (.bool false)
    simpa using h2)
  have HO := Lib.hid (((OthersKept.of_below (p := fun j => j = g) HB.out).trans H2.out (fun _ _ h => h)).trans (one_kept w1 g 9 (.bool false)) (fun _ _ h => h))
  go_wp2_with fail
  refine bodyPost_end (results_none rfl _ _ _) rfl ?_
  exact ⟨rfl, HP.out, HO.out⟩
set_option maxHeartbeats 2000000 in
set_option maxRecDepth 100000 in
theorem hmR_none (w : World) (g kind level id lsn next at_ : Nat) (sv : Value) (s : List UInt8) (hH : HdAt w g kind level id lsn next sv s at_ true false) (hin : at_ + 2 ≤ s.length) (hs : s.length ≤ 100000) :
    Calls Try.prog 155 #[.pointer (some ⟨g, 0, none⟩)] w fun e w' => e = .returned (.tuple #[]) ∧ HdAt w' g kind level id lsn next sv s (at_ + 2) true (decide (rdNum s at_ 2 ≠ 0)) ∧ OthersKept w w' (fun j => j = g) := by
  have HH := Lib.hid hH
  have hgl := hH.lt
  obtain ⟨W, hW⟩ : ∃ W, W = w.alloc (.cells #[.int .u32 0] 22) := ⟨_, rfl⟩
  have b0 : Below w.heap.size w W := by rw [hW]; exact alloc_below _ _
  have N0 : W.heap[w.heap.size]? = some (.cells #[.int .u32 0] 22 (0, 0)) := by rw [hW]; exact heap_alloc_new w _
  have C := Lib.hid (hnR_two W g w.heap.size 0 0 kind level id lsn next at_ sv s (hH.below b0) (by rw [blk_cell N0]; rfl) (blk_frozen N0 0) (by omega) hin hs)
  have HB := Lib.hid b0
  have HN0 := Lib.hid N0
  obtain ⟨n, hn⟩ : ∃ n, n = rdNum s at_ 2 := ⟨_, rfl⟩
  rw [← hn] at C ⊢
  obtain ⟨b, hb⟩ : ∃ b, b = decide (n ≠ 0) := ⟨_, rfl⟩
  rw [← hb]
  have hbi : ((n : Int) != 0) = b := by
    rw [hb]
    by_cases h : n = 0
    · subst h; rfl
    · rw [decide_eq_true h]; simp; omega
  clear hH b0 N0 hn hb
  go_enter Try.func155, Try.ntmps155
  go_upto_region 1 with fail
  rw [← hW]
  clear hW
  go_wp2_with fail
  refine C.out.mono ?_
  rintro e w1 ⟨rfl, wm, hbm, hw⟩
  have hgm : g ≠ w.heap.size := by omega
  have hnm : w.heap.size ≠ g := by omega
  have H1 : Hid (HdAt w1 g kind level id lsn next sv s (at_ + 2) true false) := Lib.hid (by rw [hw]; exact (((HH.out.below HB.out).below hbm).far hnm).put97 false (at_ + 2))
  have H2 : Hid (OthersKept w w1 (fun j => j = g)) := Lib.hid (by
    rw [hw]
    have h1 : OthersKept w wm (fun j => j = g) := OthersKept.of_below (below_then HB.out hbm)
    have h2 : OthersKept w (wm.setCell ⟨w.heap.size, 0, none⟩ (.int .u32 (n : Nat))) (fun j => j = g) := ⟨h1.os, h1.tape, h1.output, by simpa [World.setCell] using h1.size, fun k hk hne => by rw [Below.heap_setCell _ _ _ _ (fun e => by have e2 : k = w.heap.size := e; omega)]; exact h1.block k hk hne⟩
    exact (h2.trans (one_kept _ g 9 _) (fun _ _ h => h)).trans (one_kept _ g 7 _) (fun _ _ h => h))
  have n1 : w1.cell? ⟨w.heap.size, 0, none⟩ = some (.int .u32 n) := by
    rw [hw]
    rw [blk_cell (set_keep (set_keep (blk_set ((hbm.block _ (blk_lt HN0.out)).trans HN0.out) 0 (.int .u32 (n : Nat))) hnm) hnm)]; rfl
  clear hbm hw C
  obtain ⟨h0, h1, h2, h3, h4, h5, h6, h7, h8, h9⟩ := H1.out.cells
  have f9 := H1.out.fr 9
  clear h0 h1 h2 h3 h4 h5 h6 h7 h8
  have HP := Lib.hid (show HdAt (w1.setCell ⟨g, 9, none⟩ (.bool b)) g kind level id lsn next sv s (at_ + 2) true b from by
    have h := H1.out
    unfold HdAt at *
    have h2 := blk_set h 9 (.bool b)
    simpa using h2)
  have HO := Lib.hid (H2.out.trans (one_kept w1 g 9 (.bool b)) (fun _ _ h => h))
  go_wp2_with fail
  refine bodyPost_end (results_none rfl _ _ _) rfl ?_
  exact ⟨rfl, HP.out, HO.out⟩

end Go.Proofs.Ytienlhnbmobinaa
