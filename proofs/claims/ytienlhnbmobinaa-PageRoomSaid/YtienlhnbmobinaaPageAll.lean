/- chapter 06: a page's head gone through -/
import Derived.Test.YtienlhnbmobinaaRows
import Derived.Test.YtienlhnbmobinaaPageHead
import Derived.Test.YtienlhnbmobinaaPageNum
import Derived.Test.YtienlhnbmobinaaPagePlain
import Derived.Test.YtienlhnbmobinaaBase
import Derived.Test.YtienlhnbmobinaaPlains
import Derived.Test.YtienlhnbmobinaaTextsP
import Derived.Test.YtienlhnbmobinaaWordWalks
import Derived.Test.YtienlhnbmobinaaOpWord
import Derived.Test.YtienlhnbmobinaaOpPlain
import Derived.Deep.CutBlock
import Derived.WalkKit
import Derived.WalkLawsBesides
import Derived.WalkSpells
import Derived.LoopTactic
import Derived.WalkMore
import Derived.LoopN
import Derived.Laws.BitsAllLaws
import Derived.Laws.IdiomStrings
import Derived.BigQuiet
import Derived.Deep.QuietTactic
import Derived.Deep.DeepCutAuto
import Derived.Deep.RegionHeld3
import Derived.Deep.DrawnRows
import Derived.Lib.Hide
import Derived.Outline
import Derived.Deep.DeepMust
import Derived.Handy
namespace Go.Proofs.Ytienlhnbmobinaa
open Go.RowKit
set_option linter.unusedVariables false
set_option linter.unusedSimpArgs false

/-- A head's bytes as far as it was gone through. -/
def hS (kind level id lsn next : Nat) : Nat → List UInt8
  | 0 => []
  | 1 => be 1 kind
  | 2 => be 1 kind ++ be 1 level
  | 3 => be 1 kind ++ be 1 level ++ be 4 id
  | 4 => be 1 kind ++ be 1 level ++ be 4 id ++ be 8 lsn
  | 5 => be 1 kind ++ be 1 level ++ be 4 id ++ be 8 lsn ++ be 4 next
  | _ => be 1 kind ++ be 1 level ++ be 4 id ++ be 8 lsn ++ be 4 next ++ be 2 0
theorem hS_len (kind level id lsn next k : Nat) : (hS kind level id lsn next k).length ≤ 20 := by
  unfold hS
  split <;> simp only [List.length_append, be_length, List.length_nil] <;> omega
def hOf : Nat → Nat
  | 0 => 0
  | 1 => 1
  | 2 => 2
  | 3 => 6
  | 4 => 14
  | 5 => 18
  | _ => 20
def hV (s : List UInt8) (i k : Nat) : Nat :=
  if i < k then (match i with | 0 => rdNum s 0 1 | 1 => rdNum s 1 1 | 2 => rdNum s 2 4 | 3 => rdNum s 6 8 | _ => rdNum s 14 4) else 0
def hBad (s : List UInt8) (k : Nat) : Bool := if k = 6 then decide (rdNum s 18 2 ≠ 0) else false
set_option maxHeartbeats 4000000 in
set_option maxRecDepth 100000 in
theorem headW_any (w : World) (g kind level id lsn next : Nat) (sv : Value) (hH : HdAt w g kind level id lsn next sv [] 0 false false) (hx : kind < 256 ∧ level < 256 ∧ id < 256 ^ 4 ∧ lsn < 256 ^ 8 ∧ next < 256 ^ 4) :
    Calls Try.prog 95 #[.pointer (some ⟨g, 0, none⟩)] w fun e w' => e = .returned (.tuple #[]) ∧ HdAt w' g kind level id lsn next sv (hS kind level id lsn next 6) 0 false false ∧ OthersKept w w' (fun j => j = g) := by
  have hgl := hH.lt
  have S0 := Lib.hid (heap_alloc_new w (.cells #[.func (.func 150) #[.pointer (some ⟨g, 0, none⟩)] #[], .func (.func 151) #[.pointer (some ⟨g, 0, none⟩)] #[], .func (.func 152) #[.pointer (some ⟨g, 0, none⟩)] #[], .func (.func 153) #[.pointer (some ⟨g, 0, none⟩)] #[], .func (.func 154) #[.pointer (some ⟨g, 0, none⟩)] #[], .func (.func 155) #[.pointer (some ⟨g, 0, none⟩)] #[]] 1))
  have b0 := alloc_below w (.cells #[.func (.func 150) #[.pointer (some ⟨g, 0, none⟩)] #[], .func (.func 151) #[.pointer (some ⟨g, 0, none⟩)] #[], .func (.func 152) #[.pointer (some ⟨g, 0, none⟩)] #[], .func (.func 153) #[.pointer (some ⟨g, 0, none⟩)] #[], .func (.func 154) #[.pointer (some ⟨g, 0, none⟩)] #[], .func (.func 155) #[.pointer (some ⟨g, 0, none⟩)] #[]] 1)
  have H0 : Hid (HdAt (w.alloc (.cells #[.func (.func 150) #[.pointer (some ⟨g, 0, none⟩)] #[], .func (.func 151) #[.pointer (some ⟨g, 0, none⟩)] #[], .func (.func 152) #[.pointer (some ⟨g, 0, none⟩)] #[], .func (.func 153) #[.pointer (some ⟨g, 0, none⟩)] #[], .func (.func 154) #[.pointer (some ⟨g, 0, none⟩)] #[], .func (.func 155) #[.pointer (some ⟨g, 0, none⟩)] #[]] 1)) g kind level id lsn next sv (hS kind level id lsn next 0) 0 false false) := Lib.hid (hH.below b0)
  have O0 := Lib.hid (OthersKept.of_below (p := fun j => j = g) b0)
  have HX := Lib.hid hx
  clear hH b0 hx
  go_enter Try.func95, Try.ntmps95
  go_wp2_with fail
  generalize w.alloc (.cells #[.func (.func 150) #[.pointer (some ⟨g, 0, none⟩)] #[], .func (.func 151) #[.pointer (some ⟨g, 0, none⟩)] #[], .func (.func 152) #[.pointer (some ⟨g, 0, none⟩)] #[], .func (.func 153) #[.pointer (some ⟨g, 0, none⟩)] #[], .func (.func 154) #[.pointer (some ⟨g, 0, none⟩)] #[], .func (.func 155) #[.pointer (some ⟨g, 0, none⟩)] #[]] 1) = w1 at *
  go_loopw [18] (fun s18 wr => ∃ k : Nat, s18 = .int .i64 k ∧ k ≤ 6 ∧ Hid (HdAt wr g kind level id lsn next sv (hS kind level id lsn next k) 0 false false) ∧ Hid (wr.heap[w.heap.size]? = some (.cells #[.func (.func 150) #[.pointer (some ⟨g, 0, none⟩)] #[], .func (.func 151) #[.pointer (some ⟨g, 0, none⟩)] #[], .func (.func 152) #[.pointer (some ⟨g, 0, none⟩)] #[], .func (.func 153) #[.pointer (some ⟨g, 0, none⟩)] #[], .func (.func 154) #[.pointer (some ⟨g, 0, none⟩)] #[], .func (.func 155) #[.pointer (some ⟨g, 0, none⟩)] #[]] 1 (0, 0))) ∧ Hid (OthersKept w wr (fun j => j = g))) (fun v _ => 6 - (intOf v).toNat)
  case atStart => exact ⟨0, rfl, by omega, H0, S0, O0⟩
  case round =>
    obtain ⟨k, rfl, hk, HH, HS, HO⟩ := hrel
    clear H0 S0 O0
    by_cases hk6 : k < 6
    · have hki : (k : Int) < 6 := by omega
      have hcs : k = 0 ∨ k = 1 ∨ k = 2 ∨ k = 3 ∨ k = 4 ∨ k = 5 := by omega
      rcases hcs with rfl | rfl | rfl | rfl | rfl | rfl
      · have c0 : wr.cell? ⟨w.heap.size, 0, none⟩ = some (.func (.func 150) #[.pointer (some ⟨g, 0, none⟩)] #[]) := by rw [blk_cell HS.out]; rfl
        have C := Lib.hid (hmW_kind wr g kind level id lsn next 0 sv _ HH.out HX.out.1 (Nat.le_trans (hS_len kind level id lsn next 0) (by omega)))
        go_wp2_with fail
        refine C.out.mono ?_
        rintro e w2 ⟨rfl, h1, h2⟩
        have HN : Hid (HdAt w2 g kind level id lsn next sv (hS kind level id lsn next 1) 0 false false) := Lib.hid h1
        have HS2 := Lib.hid (h2.heap HS.out (fun e => by have e2 : w.heap.size = g := e; omega))
        have HO2 := Lib.hid (HO.out.trans h2 (fun _ _ h => h))
        clear h1 h2 C c0
        go_wp2_with fail
        exact ⟨⟨1, rfl, by omega, HN, HS2, HO2⟩, by simp [intOf]⟩
      · have c0 : wr.cell? ⟨w.heap.size, 1, none⟩ = some (.func (.func 151) #[.pointer (some ⟨g, 0, none⟩)] #[]) := by rw [blk_cell HS.out]; rfl
        have C := Lib.hid (hmW_level wr g kind level id lsn next 0 sv _ HH.out HX.out.2.1 (Nat.le_trans (hS_len kind level id lsn next 1) (by omega)))
        go_wp2_with fail
        refine C.out.mono ?_
        rintro e w2 ⟨rfl, h1, h2⟩
        have HN : Hid (HdAt w2 g kind level id lsn next sv (hS kind level id lsn next 2) 0 false false) := Lib.hid h1
        have HS2 := Lib.hid (h2.heap HS.out (fun e => by have e2 : w.heap.size = g := e; omega))
        have HO2 := Lib.hid (HO.out.trans h2 (fun _ _ h => h))
        clear h1 h2 C c0
        go_wp2_with fail
        exact ⟨⟨2, rfl, by omega, HN, HS2, HO2⟩, by simp [intOf]⟩
      · have c0 : wr.cell? ⟨w.heap.size, 2, none⟩ = some (.func (.func 152) #[.pointer (some ⟨g, 0, none⟩)] #[]) := by rw [blk_cell HS.out]; rfl
        have C := Lib.hid (hmW_id wr g kind level id lsn next 0 sv _ HH.out HX.out.2.2.1 (Nat.le_trans (hS_len kind level id lsn next 2) (by omega)))
        go_wp2_with fail
        refine C.out.mono ?_
        rintro e w2 ⟨rfl, h1, h2⟩
        have HN : Hid (HdAt w2 g kind level id lsn next sv (hS kind level id lsn next 3) 0 false false) := Lib.hid h1
        have HS2 := Lib.hid (h2.heap HS.out (fun e => by have e2 : w.heap.size = g := e; omega))
        have HO2 := Lib.hid (HO.out.trans h2 (fun _ _ h => h))
        clear h1 h2 C c0
        go_wp2_with fail
        exact ⟨⟨3, rfl, by omega, HN, HS2, HO2⟩, by simp [intOf]⟩
      · have c0 : wr.cell? ⟨w.heap.size, 3, none⟩ = some (.func (.func 153) #[.pointer (some ⟨g, 0, none⟩)] #[]) := by rw [blk_cell HS.out]; rfl
        have C := Lib.hid (hmW_lsn wr g kind level id lsn next 0 sv _ HH.out HX.out.2.2.2.1 (Nat.le_trans (hS_len kind level id lsn next 3) (by omega)))
        go_wp2_with fail
        refine C.out.mono ?_
        rintro e w2 ⟨rfl, h1, h2⟩
        have HN : Hid (HdAt w2 g kind level id lsn next sv (hS kind level id lsn next 4) 0 false false) := Lib.hid h1
        have HS2 := Lib.hid (h2.heap HS.out (fun e => by have e2 : w.heap.size = g := e; omega))
        have HO2 := Lib.hid (HO.out.trans h2 (fun _ _ h => h))
        clear h1 h2 C c0
        go_wp2_with fail
        exact ⟨⟨4, rfl, by omega, HN, HS2, HO2⟩, by simp [intOf]⟩
      · have c0 : wr.cell? ⟨w.heap.size, 4, none⟩ = some (.func (.func 154) #[.pointer (some ⟨g, 0, none⟩)] #[]) := by rw [blk_cell HS.out]; rfl
        have C := Lib.hid (hmW_next wr g kind level id lsn next 0 sv _ HH.out HX.out.2.2.2.2 (Nat.le_trans (hS_len kind level id lsn next 4) (by omega)))
        go_wp2_with fail
        refine C.out.mono ?_
        rintro e w2 ⟨rfl, h1, h2⟩
        have HN : Hid (HdAt w2 g kind level id lsn next sv (hS kind level id lsn next 5) 0 false false) := Lib.hid h1
        have HS2 := Lib.hid (h2.heap HS.out (fun e => by have e2 : w.heap.size = g := e; omega))
        have HO2 := Lib.hid (HO.out.trans h2 (fun _ _ h => h))
        clear h1 h2 C c0
        go_wp2_with fail
        exact ⟨⟨5, rfl, by omega, HN, HS2, HO2⟩, by simp [intOf]⟩
      · have c0 : wr.cell? ⟨w.heap.size, 5, none⟩ = some (.func (.func 155) #[.pointer (some ⟨g, 0, none⟩)] #[]) := by rw [blk_cell HS.out]; rfl
        have C := Lib.hid (hmW_none wr g kind level id lsn next 0 sv _ HH.out (Nat.le_trans (hS_len kind level id lsn next 5) (by omega)))
        go_wp2_with fail
        refine C.out.mono ?_
        rintro e w2 ⟨rfl, h1, h2⟩
        have HN : Hid (HdAt w2 g kind level id lsn next sv (hS kind level id lsn next 6) 0 false false) := Lib.hid h1
        have HS2 := Lib.hid (h2.heap HS.out (fun e => by have e2 : w.heap.size = g := e; omega))
        have HO2 := Lib.hid (HO.out.trans h2 (fun _ _ h => h))
        clear h1 h2 C c0
        go_wp2_with fail
        exact ⟨⟨6, rfl, by omega, HN, HS2, HO2⟩, by simp [intOf]⟩
    · obtain rfl : k = 6 := by omega
      go_wp2_with fail
      refine bodyPost_end (results_none rfl _ _ _) rfl ?_
      exact ⟨rfl, HH.out, HO.out⟩
set_option maxHeartbeats 4000000 in
set_option maxRecDepth 100000 in
theorem headR_any (w : World) (g : Nat) (sv : Value) (s : List UInt8) (hin : 20 ≤ s.length) (hs : s.length ≤ 100000) (hH : HdAt w g 0 0 0 0 0 sv s 0 true false) :
    Calls Try.prog 95 #[.pointer (some ⟨g, 0, none⟩)] w fun e w' => e = .returned (.tuple #[]) ∧ HdAt w' g (rdNum s 0 1) (rdNum s 1 1) (rdNum s 2 4) (rdNum s 6 8) (rdNum s 14 4) sv s 20 true (decide (rdNum s 18 2 ≠ 0)) ∧ OthersKept w w' (fun j => j = g) := by
  have hgl := hH.lt
  have S0 := Lib.hid (heap_alloc_new w (.cells #[.func (.func 150) #[.pointer (some ⟨g, 0, none⟩)] #[], .func (.func 151) #[.pointer (some ⟨g, 0, none⟩)] #[], .func (.func 152) #[.pointer (some ⟨g, 0, none⟩)] #[], .func (.func 153) #[.pointer (some ⟨g, 0, none⟩)] #[], .func (.func 154) #[.pointer (some ⟨g, 0, none⟩)] #[], .func (.func 155) #[.pointer (some ⟨g, 0, none⟩)] #[]] 1))
  have b0 := alloc_below w (.cells #[.func (.func 150) #[.pointer (some ⟨g, 0, none⟩)] #[], .func (.func 151) #[.pointer (some ⟨g, 0, none⟩)] #[], .func (.func 152) #[.pointer (some ⟨g, 0, none⟩)] #[], .func (.func 153) #[.pointer (some ⟨g, 0, none⟩)] #[], .func (.func 154) #[.pointer (some ⟨g, 0, none⟩)] #[], .func (.func 155) #[.pointer (some ⟨g, 0, none⟩)] #[]] 1)
  have H0 : Hid (HdAt (w.alloc (.cells #[.func (.func 150) #[.pointer (some ⟨g, 0, none⟩)] #[], .func (.func 151) #[.pointer (some ⟨g, 0, none⟩)] #[], .func (.func 152) #[.pointer (some ⟨g, 0, none⟩)] #[], .func (.func 153) #[.pointer (some ⟨g, 0, none⟩)] #[], .func (.func 154) #[.pointer (some ⟨g, 0, none⟩)] #[], .func (.func 155) #[.pointer (some ⟨g, 0, none⟩)] #[]] 1)) g (hV s 0 0) (hV s 1 0) (hV s 2 0) (hV s 3 0) (hV s 4 0) sv s (hOf 0) true (hBad s 0)) := Lib.hid (hH.below b0)
  have O0 := Lib.hid (OthersKept.of_below (p := fun j => j = g) b0)
  have HIN := Lib.hid hin
  clear hH b0 hin
  go_enter Try.func95, Try.ntmps95
  go_wp2_with fail
  generalize w.alloc (.cells #[.func (.func 150) #[.pointer (some ⟨g, 0, none⟩)] #[], .func (.func 151) #[.pointer (some ⟨g, 0, none⟩)] #[], .func (.func 152) #[.pointer (some ⟨g, 0, none⟩)] #[], .func (.func 153) #[.pointer (some ⟨g, 0, none⟩)] #[], .func (.func 154) #[.pointer (some ⟨g, 0, none⟩)] #[], .func (.func 155) #[.pointer (some ⟨g, 0, none⟩)] #[]] 1) = w1 at *
  go_loopw [18] (fun s18 wr => ∃ k : Nat, s18 = .int .i64 k ∧ k ≤ 6 ∧ Hid (HdAt wr g (hV s 0 k) (hV s 1 k) (hV s 2 k) (hV s 3 k) (hV s 4 k) sv s (hOf k) true (hBad s k)) ∧ Hid (wr.heap[w.heap.size]? = some (.cells #[.func (.func 150) #[.pointer (some ⟨g, 0, none⟩)] #[], .func (.func 151) #[.pointer (some ⟨g, 0, none⟩)] #[], .func (.func 152) #[.pointer (some ⟨g, 0, none⟩)] #[], .func (.func 153) #[.pointer (some ⟨g, 0, none⟩)] #[], .func (.func 154) #[.pointer (some ⟨g, 0, none⟩)] #[], .func (.func 155) #[.pointer (some ⟨g, 0, none⟩)] #[]] 1 (0, 0))) ∧ Hid (OthersKept w wr (fun j => j = g))) (fun v _ => 6 - (intOf v).toNat)
  case atStart => exact ⟨0, rfl, by omega, H0, S0, O0⟩
  case round =>
    obtain ⟨k, rfl, hk, HH, HS, HO⟩ := hrel
    clear H0 S0 O0
    by_cases hk6 : k < 6
    · have hki : (k : Int) < 6 := by omega
      have hcs : k = 0 ∨ k = 1 ∨ k = 2 ∨ k = 3 ∨ k = 4 ∨ k = 5 := by omega
      rcases hcs with rfl | rfl | rfl | rfl | rfl | rfl
      · have c0 : wr.cell? ⟨w.heap.size, 0, none⟩ = some (.func (.func 150) #[.pointer (some ⟨g, 0, none⟩)] #[]) := by rw [blk_cell HS.out]; rfl
        have C := Lib.hid (hmR_kind wr g (hV s 0 0) (hV s 1 0) (hV s 2 0) (hV s 3 0) (hV s 4 0) 0 sv s HH.out (by have := HIN.out; omega) hs)
        go_wp2_with fail
        refine C.out.mono ?_
        rintro e w2 ⟨rfl, h1, h2⟩
        have HN : Hid (HdAt w2 g (hV s 0 1) (hV s 1 1) (hV s 2 1) (hV s 3 1) (hV s 4 1) sv s (hOf 1) true (hBad s 1)) := Lib.hid h1
        have HS2 := Lib.hid (h2.heap HS.out (fun e => by have e2 : w.heap.size = g := e; omega))
        have HO2 := Lib.hid (HO.out.trans h2 (fun _ _ h => h))
        clear h1 h2 C c0
        go_wp2_with fail
        exact ⟨⟨1, rfl, by omega, HN, HS2, HO2⟩, by simp [intOf]⟩
      · have c0 : wr.cell? ⟨w.heap.size, 1, none⟩ = some (.func (.func 151) #[.pointer (some ⟨g, 0, none⟩)] #[]) := by rw [blk_cell HS.out]; rfl
        have C := Lib.hid (hmR_level wr g (hV s 0 1) (hV s 1 1) (hV s 2 1) (hV s 3 1) (hV s 4 1) 1 sv s HH.out (by have := HIN.out; omega) hs)
        go_wp2_with fail
        refine C.out.mono ?_
        rintro e w2 ⟨rfl, h1, h2⟩
        have HN : Hid (HdAt w2 g (hV s 0 2) (hV s 1 2) (hV s 2 2) (hV s 3 2) (hV s 4 2) sv s (hOf 2) true (hBad s 2)) := Lib.hid h1
        have HS2 := Lib.hid (h2.heap HS.out (fun e => by have e2 : w.heap.size = g := e; omega))
        have HO2 := Lib.hid (HO.out.trans h2 (fun _ _ h => h))
        clear h1 h2 C c0
        go_wp2_with fail
        exact ⟨⟨2, rfl, by omega, HN, HS2, HO2⟩, by simp [intOf]⟩
      · have c0 : wr.cell? ⟨w.heap.size, 2, none⟩ = some (.func (.func 152) #[.pointer (some ⟨g, 0, none⟩)] #[]) := by rw [blk_cell HS.out]; rfl
        have C := Lib.hid (hmR_id wr g (hV s 0 2) (hV s 1 2) (hV s 2 2) (hV s 3 2) (hV s 4 2) 2 sv s HH.out (by have := HIN.out; omega) hs)
        go_wp2_with fail
        refine C.out.mono ?_
        rintro e w2 ⟨rfl, h1, h2⟩
        have HN : Hid (HdAt w2 g (hV s 0 3) (hV s 1 3) (hV s 2 3) (hV s 3 3) (hV s 4 3) sv s (hOf 3) true (hBad s 3)) := Lib.hid h1
        have HS2 := Lib.hid (h2.heap HS.out (fun e => by have e2 : w.heap.size = g := e; omega))
        have HO2 := Lib.hid (HO.out.trans h2 (fun _ _ h => h))
        clear h1 h2 C c0
        go_wp2_with fail
        exact ⟨⟨3, rfl, by omega, HN, HS2, HO2⟩, by simp [intOf]⟩
      · have c0 : wr.cell? ⟨w.heap.size, 3, none⟩ = some (.func (.func 153) #[.pointer (some ⟨g, 0, none⟩)] #[]) := by rw [blk_cell HS.out]; rfl
        have C := Lib.hid (hmR_lsn wr g (hV s 0 3) (hV s 1 3) (hV s 2 3) (hV s 3 3) (hV s 4 3) 6 sv s HH.out (by have := HIN.out; omega) hs)
        go_wp2_with fail
        refine C.out.mono ?_
        rintro e w2 ⟨rfl, h1, h2⟩
        have HN : Hid (HdAt w2 g (hV s 0 4) (hV s 1 4) (hV s 2 4) (hV s 3 4) (hV s 4 4) sv s (hOf 4) true (hBad s 4)) := Lib.hid h1
        have HS2 := Lib.hid (h2.heap HS.out (fun e => by have e2 : w.heap.size = g := e; omega))
        have HO2 := Lib.hid (HO.out.trans h2 (fun _ _ h => h))
        clear h1 h2 C c0
        go_wp2_with fail
        exact ⟨⟨4, rfl, by omega, HN, HS2, HO2⟩, by simp [intOf]⟩
      · have c0 : wr.cell? ⟨w.heap.size, 4, none⟩ = some (.func (.func 154) #[.pointer (some ⟨g, 0, none⟩)] #[]) := by rw [blk_cell HS.out]; rfl
        have C := Lib.hid (hmR_next wr g (hV s 0 4) (hV s 1 4) (hV s 2 4) (hV s 3 4) (hV s 4 4) 14 sv s HH.out (by have := HIN.out; omega) hs)
        go_wp2_with fail
        refine C.out.mono ?_
        rintro e w2 ⟨rfl, h1, h2⟩
        have HN : Hid (HdAt w2 g (hV s 0 5) (hV s 1 5) (hV s 2 5) (hV s 3 5) (hV s 4 5) sv s (hOf 5) true (hBad s 5)) := Lib.hid h1
        have HS2 := Lib.hid (h2.heap HS.out (fun e => by have e2 : w.heap.size = g := e; omega))
        have HO2 := Lib.hid (HO.out.trans h2 (fun _ _ h => h))
        clear h1 h2 C c0
        go_wp2_with fail
        exact ⟨⟨5, rfl, by omega, HN, HS2, HO2⟩, by simp [intOf]⟩
      · have c0 : wr.cell? ⟨w.heap.size, 5, none⟩ = some (.func (.func 155) #[.pointer (some ⟨g, 0, none⟩)] #[]) := by rw [blk_cell HS.out]; rfl
        have C := Lib.hid (hmR_none wr g (hV s 0 5) (hV s 1 5) (hV s 2 5) (hV s 3 5) (hV s 4 5) 18 sv s HH.out (by have := HIN.out; omega) hs)
        go_wp2_with fail
        refine C.out.mono ?_
        rintro e w2 ⟨rfl, h1, h2⟩
        have HN : Hid (HdAt w2 g (hV s 0 6) (hV s 1 6) (hV s 2 6) (hV s 3 6) (hV s 4 6) sv s (hOf 6) true (hBad s 6)) := Lib.hid h1
        have HS2 := Lib.hid (h2.heap HS.out (fun e => by have e2 : w.heap.size = g := e; omega))
        have HO2 := Lib.hid (HO.out.trans h2 (fun _ _ h => h))
        clear h1 h2 C c0
        go_wp2_with fail
        exact ⟨⟨6, rfl, by omega, HN, HS2, HO2⟩, by simp [intOf]⟩
    · obtain rfl : k = 6 := by omega
      go_wp2_with fail
      refine bodyPost_end (results_none rfl _ _ _) rfl ?_
      exact ⟨rfl, HH.out, HO.out⟩
theorem hS_head (p : Pg) : hS p.kind p.level p.id p.lsn p.next 6 = headB p := by
  unfold hS headB
  simp only [List.append_assoc]

end Go.Proofs.Ytienlhnbmobinaa
