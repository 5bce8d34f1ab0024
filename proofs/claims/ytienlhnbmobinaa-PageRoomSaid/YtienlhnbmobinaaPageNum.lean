/- chapter 06: a number of a page's head gone through -/
import Derived.Test.YtienlhnbmobinaaRows
import Derived.Test.YtienlhnbmobinaaBase
import Derived.Test.YtienlhnbmobinaaPlains
import Derived.Test.YtienlhnbmobinaaTextsP
import Derived.Test.YtienlhnbmobinaaWordWalks
import Derived.Test.YtienlhnbmobinaaOpWord
import Derived.Test.YtienlhnbmobinaaOpPlain
import Derived.Deep.CutBlock
import Derived.WalkKit
import Derived.WalkLawsBesides
import Derived.WalkSpells
import Derived.LoopTactic
import Derived.WalkMore
import Derived.LoopN
import Derived.Laws.BitsAllLaws
import Derived.Laws.IdiomStrings
import Derived.BigQuiet
import Derived.Deep.QuietTactic
import Derived.Deep.DeepCutAuto
import Derived.Deep.RegionHeld3
import Derived.Deep.DrawnRows
import Derived.Lib.Hide
import Derived.Outline
import Derived.Deep.DeepMust
import Derived.Handy
namespace Go.Proofs.Ytienlhnbmobinaa
open Go.RowKit
set_option linter.unusedVariables false
set_option linter.unusedSimpArgs false

/-- What goes through a page's head, in memory. -/
def HdAt (w : World) (g kind level id lsn next : Nat) (sv : Value) (s : List UInt8) (at_ : Nat) (rd bad : Bool) : Prop := w.heap[g]? = some (.cells #[.int .u8 kind, .int .u8 level, .int .u32 id, .int .u64 lsn, .int .u32 next, sv, .string ⟨s.toArray⟩, .int .i64 (at_ : Nat), .bool rd, .bool bad] 130 (0, 0))
section
variable {w w' : World} {g kind level id lsn next at_ : Nat} {sv : Value} {s : List UInt8} {rd bad : Bool}
theorem HdAt.lt (h : HdAt w g kind level id lsn next sv s at_ rd bad) : g < w.heap.size := blk_lt h
theorem HdAt.cells (h : HdAt w g kind level id lsn next sv s at_ rd bad) : w.cell? ⟨g, 0, none⟩ = some (.int .u8 kind) ∧ w.cell? ⟨g, 1, none⟩ = some (.int .u8 level) ∧ w.cell? ⟨g, 2, none⟩ = some (.int .u32 id) ∧ w.cell? ⟨g, 3, none⟩ = some (.int .u64 lsn) ∧ w.cell? ⟨g, 4, none⟩ = some (.int .u32 next) ∧ w.cell? ⟨g, 5, none⟩ = some sv ∧ w.cell? ⟨g, 6, none⟩ = some (.string ⟨s.toArray⟩) ∧ w.cell? ⟨g, 7, none⟩ = some (.int .i64 (at_ : Nat)) ∧ w.cell? ⟨g, 8, none⟩ = some (.bool rd) ∧ w.cell? ⟨g, 9, none⟩ = some (.bool bad) := by
  unfold HdAt at h
  refine ⟨?_, ?_, ?_, ?_, ?_, ?_, ?_, ?_, ?_, ?_⟩ <;> (rw [blk_cell h]; rfl)
theorem HdAt.fr (h : HdAt w g kind level id lsn next sv s at_ rd bad) (i : Nat) : w.frozen? ⟨g, i, none⟩ = false := blk_frozen h i
theorem HdAt.below (h : HdAt w g kind level id lsn next sv s at_ rd bad) (hb : Below w.heap.size w w') : HdAt w' g kind level id lsn next sv s at_ rd bad := (hb.block _ (blk_lt h)).trans h
theorem HdAt.kept {q : Nat → Prop} (h : HdAt w g kind level id lsn next sv s at_ rd bad) (hk : OthersKept w w' q) (hq : ¬ q g) : HdAt w' g kind level id lsn next sv s at_ rd bad := hk.heap h hq
theorem HdAt.put69 (h : HdAt w g kind level id lsn next sv s at_ rd bad) (s' : List UInt8) (b' : Bool) : HdAt ((w.setCell ⟨g, 6, none⟩ (.string ⟨s'.toArray⟩)).setCell ⟨g, 9, none⟩ (.bool b')) g kind level id lsn next sv s' at_ rd b' := by
  unfold HdAt at *
  have h2 := blk_set (blk_set h 6 (.string ⟨s'.toArray⟩)) 9 (.bool b')
  simpa using h2
theorem HdAt.put97 (h : HdAt w g kind level id lsn next sv s at_ rd bad) (b' : Bool) (a' : Nat) : HdAt ((w.setCell ⟨g, 9, none⟩ (.bool b')).setCell ⟨g, 7, none⟩ (.int .i64 (a' : Nat))) g kind level id lsn next sv s a' rd b' := by
  unfold HdAt at *
  have h2 := blk_set (blk_set h 9 (.bool b')) 7 (.int .i64 (a' : Nat))
  simpa using h2
theorem HdAt.far {b i : Nat} {u : Value} (h : HdAt w g kind level id lsn next sv s at_ rd bad) (hne : b ≠ g) : HdAt (w.setCell ⟨b, i, none⟩ u) g kind level id lsn next sv s at_ rd bad := set_keep h (fun e => hne e.symm)
end
theorem rdN_lt (l : List UInt8) (a k : Nat) : rdNum l a k < 256 ^ k := by
  unfold rdNum
  split
  · exact un_lt k _ (by rw [List.length_take, List.length_drop]; omega)
  · exact Nat.pow_pos (by omega)
theorem byt_app (a b : List UInt8) : (⟨a.toArray⟩ : ByteArray) ++ ⟨b.toArray⟩ = ⟨(a ++ b).toArray⟩ := by
  apply bytes_ext
  simp
set_option maxHeartbeats 4000000 in
set_option maxRecDepth 100000 in
theorem hnW_u8 (w : World) (g b i x : Nat) (kind level id lsn next at_ : Nat) (sv : Value) (s : List UInt8) (hH : HdAt w g kind level id lsn next sv s at_ false false) (hB : w.cell? ⟨b, i, none⟩ = some (.int .u8 x)) (hx : x < 256 ^ 1) (hs : s.length ≤ 100000) :
    Calls Try.prog 186 #[.pointer (some ⟨g, 0, none⟩), .pointer (some ⟨b, i, none⟩), .int .i64 1] w fun e w' => e = .returned (.tuple #[]) ∧ HdAt w' g kind level id lsn next sv (s ++ be 1 x) at_ false false ∧ OthersKept w w' (fun j => j = g) := by
  simp only [Nat.reducePow] at hx
  have PU := Lib.hid fun W => put_1 x W (by simpa using hx)
  obtain ⟨h0, h1, h2, h3, h4, h5, h6, h7, h8, h9⟩ := hH.cells
  have HH := Lib.hid hH
  clear hH h0 h1 h2 h3 h4 h5 h7
  have v1 : IntKind.u64.wrap (x : Int) = (x : Int) := IntWalk.u64_in _ ⟨by omega, by omega⟩
  go_enter Try.func186, Try.ntmps186
  go_wp2_with fail
  obtain ⟨p, hp⟩ : ∃ p, p = be 1 x := ⟨_, rfl⟩
  have hpl : p.length = 1 := by rw [hp, be_length]
  have hcat : ¬ 9223372036854775807 < s.length + p.length := by omega
  rw [← hp] at PU
  have HP := Lib.hid hp
  clear hp
  refine (PU.out _).mono ?_
  rintro e w1 ⟨rfl, hb⟩
  have H1 := Lib.hid (HH.out.below hb)
  have OB := Lib.hid (OthersKept.of_below (p := fun j => j = g) hb)
  clear hb h6 h8 h9 hB HH
  obtain ⟨h0, h1, h2, h3, h4, h5, h6, h7, h8, h9⟩ := H1.out.cells
  have f6 := H1.out.fr 6
  have f9 := H1.out.fr 9
  have HF := Lib.hid fun (a' : List UInt8) => H1.out.put69 a' false
  have HO := Lib.hid (((OB.out.trans (one_kept w1 g 6 (.string ⟨(s ++ p).toArray⟩)) (fun _ _ h => h)).trans (one_kept (w1.setCell ⟨g, 6, none⟩ (.string ⟨(s ++ p).toArray⟩)) g 9 (.bool false)) (fun _ _ h => h)))
  go_upto_region 5 with fail
  go_region
  refine bodyPost_end (results_none rfl _ _ _) rfl ?_
  rw [byt_app, ← HP.out]
  exact ⟨rfl, HF.out (s ++ p), HO.out.trans (OthersKept.of_below ((Below.refl _ _).drew)) (fun _ _ h => h)⟩
set_option maxHeartbeats 4000000 in
set_option maxRecDepth 100000 in
theorem hnR_u8 (w : World) (g i x : Nat) (kind level id lsn next at_ : Nat) (sv : Value) (s : List UInt8) (hH : HdAt w g kind level id lsn next sv s at_ true false) (hB : w.cell? ⟨g, i, none⟩ = some (.int .u8 x)) (hF : w.frozen? ⟨g, i, none⟩ = false) (hi7 : i < 7) (hin : at_ + 1 ≤ s.length) (hs : s.length ≤ 100000) :
    Calls Try.prog 186 #[.pointer (some ⟨g, 0, none⟩), .pointer (some ⟨g, i, none⟩), .int .i64 1] w fun e w' => e = .returned (.tuple #[]) ∧ ∃ wm, Below w.heap.size w wm ∧ w' = ((wm.setCell ⟨g, i, none⟩ (.int .u8 (rdNum s at_ 1 : Nat))).setCell ⟨g, 9, none⟩ (.bool false)).setCell ⟨g, 7, none⟩ (.int .i64 (at_ + 1 : Nat)) := by
  have GE := fun W => wGet s at_ 1 W (by omega) (by omega) (by omega) (by omega)
  have hd : decide (at_ + 1 ≤ s.length) = true := decide_eq_true hin
  rw [hd] at GE
  have GE := Lib.hid GE
  have hrn := rdN_lt s at_ 1
  simp only [Nat.reducePow] at hrn
  obtain ⟨n, hn⟩ : ∃ n, n = rdNum s at_ 1 := ⟨_, rfl⟩
  rw [← hn] at hrn GE ⊢
  clear hn hd
  obtain ⟨h0, h1, h2, h3, h4, h5, h6, h7, h8, h9⟩ := hH.cells
  have HH := Lib.hid hH
  have hi7a : ¬ i = 7 := by omega
  have hi7b : ¬ 7 = i := by omega
  have hi9a : ¬ i = 9 := by omega
  have hi9b : ¬ 9 = i := by omega
  have KC := Lib.hid fun W (hW : Below w.heap.size w W) => (⟨keep_cell hW h6, keep_cell hW h7⟩ : W.cell? ⟨g, 6, none⟩ = some (.string ⟨s.toArray⟩) ∧ W.cell? ⟨g, 7, none⟩ = some (.int .i64 (at_ : Nat)))
  have D1 : Hid (Below w.heap.size w w.drew) := Lib.hid ((Below.refl _ _).drew)
  have HBC := Lib.hid hB
  have HBF := Lib.hid hF
  have hblt := cell_lt hB
  have w1n : IntKind.u8.wrap (n : Int) = (n : Int) := IntWalk.u8_in _ ⟨by omega, by omega⟩
  have w2n : IntKind.i64.wrap ((at_ : Int) + 1) = ((at_ + 1 : Nat) : Int) := by rw [show ((at_ + 1 : Nat) : Int) = (at_ : Int) + 1 by omega]; exact IntWalk.i64_in _ ⟨by omega, by omega⟩
  clear hH h0 h1 h2 h3 h4 h5
  go_enter Try.func186, Try.ntmps186
  go_upto_region 1 with fail
  go_region_held3 (fun W => W.cell? ⟨g, 6, none⟩ = some (.string ⟨s.toArray⟩) ∧ W.cell? ⟨g, 7, none⟩ = some (.int .i64 (at_ : Nat)))
    (first
      | (with_reducible exact KC.out _ D1.out)
      | (with_reducible exact KC.out _ hb)
      | exact KC.out _ D1.out)
    (first
      | (go_at_call 121; refine (GE.out _).mono ?_; rintro e w1 ⟨rfl, hb0⟩; have hb := below_then D1.out hb0; clear hb0))
  have H1 := HH.out.below hb
  have B1 := keep_cell hb HBC.out
  have F1 : w1.frozen? ⟨g, i, none⟩ = false := (hb.frozen (p := ⟨g, i, none⟩) hblt).trans HBF.out
  have f7 := H1.fr 7
  have f9 := H1.fr 9
  have HBB := Lib.hid hb
  clear h6 h7 h8 h9 hB hF hb
  obtain ⟨h0, h1, h2, h3, h4, h5, h6, h7, h8, h9⟩ := H1.cells
  clear H1 h0 h1 h2 h3 h4 h5 h6
  go_wp2_with fail
  (try simp only [Exit.inBlock, Exit.then])
  refine bodyPost_ret (results_none rfl _ _ _) rfl ?_
  exact ⟨rfl, w1, HBB.out, rfl⟩
set_option maxHeartbeats 4000000 in
set_option maxRecDepth 100000 in
theorem hnW_u32 (w : World) (g b i x : Nat) (kind level id lsn next at_ : Nat) (sv : Value) (s : List UInt8) (hH : HdAt w g kind level id lsn next sv s at_ false false) (hB : w.cell? ⟨b, i, none⟩ = some (.int .u32 x)) (hx : x < 256 ^ 4) (hs : s.length ≤ 100000) :
    Calls Try.prog 187 #[.pointer (some ⟨g, 0, none⟩), .pointer (some ⟨b, i, none⟩), .int .i64 4] w fun e w' => e = .returned (.tuple #[]) ∧ HdAt w' g kind level id lsn next sv (s ++ be 4 x) at_ false false ∧ OthersKept w w' (fun j => j = g) := by
  simp only [Nat.reducePow] at hx
  have PU := Lib.hid fun W => put_4 x W (by simpa using hx)
  obtain ⟨h0, h1, h2, h3, h4, h5, h6, h7, h8, h9⟩ := hH.cells
  have HH := Lib.hid hH
  clear hH h0 h1 h2 h3 h4 h5 h7
  have v1 : IntKind.u64.wrap (x : Int) = (x : Int) := IntWalk.u64_in _ ⟨by omega, by omega⟩
  go_enter Try.func187, Try.ntmps187
  go_wp2_with fail
  obtain ⟨p, hp⟩ : ∃ p, p = be 4 x := ⟨_, rfl⟩
  have hpl : p.length = 4 := by rw [hp, be_length]
  have hcat : ¬ 9223372036854775807 < s.length + p.length := by omega
  rw [← hp] at PU
  have HP := Lib.hid hp
  clear hp
  refine (PU.out _).mono ?_
  rintro e w1 ⟨rfl, hb⟩
  have H1 := Lib.hid (HH.out.below hb)
  have OB := Lib.hid (OthersKept.of_below (p := fun j => j = g) hb)
  clear hb h6 h8 h9 hB HH
  obtain ⟨h0, h1, h2, h3, h4, h5, h6, h7, h8, h9⟩ := H1.out.cells
  have f6 := H1.out.fr 6
  have f9 := H1.out.fr 9
  have HF := Lib.hid fun (a' : List UInt8) => H1.out.put69 a' false
  have HO := Lib.hid (((OB.out.trans (one_kept w1 g 6 (.string ⟨(s ++ p).toArray⟩)) (fun _ _ h => h)).trans (one_kept (w1.setCell ⟨g, 6, none⟩ (.string ⟨(s ++ p).toArray⟩)) g 9 (.bool false)) (fun _ _ h => h)))
  go_upto_region 5 with fail
  go_region
  refine bodyPost_end (results_none rfl _ _ _) rfl ?_
  rw [byt_app, ← HP.out]
  exact ⟨rfl, HF.out (s ++ p), HO.out.trans (OthersKept.of_below ((Below.refl _ _).drew)) (fun _ _ h => h)⟩
set_option maxHeartbeats 4000000 in
set_option maxRecDepth 100000 in
theorem hnR_u32 (w : World) (g i x : Nat) (kind level id lsn next at_ : Nat) (sv : Value) (s : List UInt8) (hH : HdAt w g kind level id lsn next sv s at_ true false) (hB : w.cell? ⟨g, i, none⟩ = some (.int .u32 x)) (hF : w.frozen? ⟨g, i, none⟩ = false) (hi7 : i < 7) (hin : at_ + 4 ≤ s.length) (hs : s.length ≤ 100000) :
    Calls Try.prog 187 #[.pointer (some ⟨g, 0, none⟩), .pointer (some ⟨g, i, none⟩), .int .i64 4] w fun e w' => e = .returned (.tuple #[]) ∧ ∃ wm, Below w.heap.size w wm ∧ w' = ((wm.setCell ⟨g, i, none⟩ (.int .u32 (rdNum s at_ 4 : Nat))).setCell ⟨g, 9, none⟩ (.bool false)).setCell ⟨g, 7, none⟩ (.int .i64 (at_ + 4 : Nat)) := by
  have GE := fun W => wGet s at_ 4 W (by omega) (by omega) (by omega) (by omega)
  have hd : decide (at_ + 4 ≤ s.length) = true := decide_eq_true hin
  rw [hd] at GE
  have GE := Lib.hid GE
  have hrn := rdN_lt s at_ 4
  simp only [Nat.reducePow] at hrn
  obtain ⟨n, hn⟩ : ∃ n, n = rdNum s at_ 4 := ⟨_, rfl⟩
  rw [← hn] at hrn GE ⊢
  clear hn hd
  obtain ⟨h0, h1, h2, h3, h4, h5, h6, h7, h8, h9⟩ := hH.cells
  have HH := Lib.hid hH
  have hi7a : ¬ i = 7 := by omega
  have hi7b : ¬ 7 = i := by omega
  have hi9a : ¬ i = 9 := by omega
  have hi9b : ¬ 9 = i := by omega
  have KC := Lib.hid fun W (hW : Below w.heap.size w W) => (⟨keep_cell hW h6, keep_cell hW h7⟩ : W.cell? ⟨g, 6, none⟩ = some (.string ⟨s.toArray⟩) ∧ W.cell? ⟨g, 7, none⟩ = some (.int .i64 (at_ : Nat)))
  have D1 : Hid (Below w.heap.size w w.drew) := Lib.hid ((Below.refl _ _).drew)
  have HBC := Lib.hid hB
  have HBF := Lib.hid hF
  have hblt := cell_lt hB
  have w1n : IntKind.u32.wrap (n : Int) = (n : Int) := IntWalk.u32_in _ ⟨by omega, by omega⟩
  have w2n : IntKind.i64.wrap ((at_ : Int) + 4) = ((at_ + 4 : Nat) : Int) := by rw [show ((at_ + 4 : Nat) : Int) = (at_ : Int) + 4 by omega]; exact IntWalk.i64_in _ ⟨by omega, by omega⟩
  clear hH h0 h1 h2 h3 h4 h5
  go_enter Try.func187, Try.ntmps187
  go_upto_region 1 with fail
  go_region_held3 (fun W => W.cell? ⟨g, 6, none⟩ = some (.string ⟨s.toArray⟩) ∧ W.cell? ⟨g, 7, none⟩ = some (.int .i64 (at_ : Nat)))
    (first
      | (with_reducible exact KC.out _ D1.out)
      | (with_reducible exact KC.out _ hb)
      | exact KC.out _ D1.out)
    (first
      | (go_at_call 121; refine (GE.out _).mono ?_; rintro e w1 ⟨rfl, hb0⟩; have hb := below_then D1.out hb0; clear hb0))
  have H1 := HH.out.below hb
  have B1 := keep_cell hb HBC.out
  have F1 : w1.frozen? ⟨g, i, none⟩ = false := (hb.frozen (p := ⟨g, i, none⟩) hblt).trans HBF.out
  have f7 := H1.fr 7
  have f9 := H1.fr 9
  have HBB := Lib.hid hb
  clear h6 h7 h8 h9 hB hF hb
  obtain ⟨h0, h1, h2, h3, h4, h5, h6, h7, h8, h9⟩ := H1.cells
  clear H1 h0 h1 h2 h3 h4 h5 h6
  go_wp2_with fail
  (try simp only [Exit.inBlock, Exit.then])
  refine bodyPost_ret (results_none rfl _ _ _) rfl ?_
  exact ⟨rfl, w1, HBB.out, rfl⟩
set_option maxHeartbeats 4000000 in
set_option maxRecDepth 100000 in
theorem hnW_u64 (w : World) (g b i x : Nat) (kind level id lsn next at_ : Nat) (sv : Value) (s : List UInt8) (hH : HdAt w g kind level id lsn next sv s at_ false false) (hB : w.cell? ⟨b, i, none⟩ = some (.int .u64 x)) (hx : x < 256 ^ 8) (hs : s.length ≤ 100000) :
    Calls Try.prog 188 #[.pointer (some ⟨g, 0, none⟩), .pointer (some ⟨b, i, none⟩), .int .i64 8] w fun e w' => e = .returned (.tuple #[]) ∧ HdAt w' g kind level id lsn next sv (s ++ be 8 x) at_ false false ∧ OthersKept w w' (fun j => j = g) := by
  simp only [Nat.reducePow] at hx
  have PU := Lib.hid fun W => put_8 x W (by simpa using hx)
  obtain ⟨h0, h1, h2, h3, h4, h5, h6, h7, h8, h9⟩ := hH.cells
  have HH := Lib.hid hH
  clear hH h0 h1 h2 h3 h4 h5 h7
  have v1 : IntKind.u64.wrap (x : Int) = (x : Int) := IntWalk.u64_in _ ⟨by omega, by omega⟩
  go_enter Try.func188, Try.ntmps188
  go_wp2_with fail
  obtain ⟨p, hp⟩ : ∃ p, p = be 8 x := ⟨_, rfl⟩
  have hpl : p.length = 8 := by rw [hp, be_length]
  have hcat : ¬ 9223372036854775807 < s.length + p.length := by omega
  rw [← hp] at PU
  have HP := Lib.hid hp
  clear hp
  refine (PU.out _).mono ?_
  rintro e w1 ⟨rfl, hb⟩
  have H1 := Lib.hid (HH.out.below hb)
  have OB := Lib.hid (OthersKept.of_below (p := fun j => j = g) hb)
  clear hb h6 h8 h9 hB HH
  obtain ⟨h0, h1, h2, h3, h4, h5, h6, h7, h8, h9⟩ := H1.out.cells
  have f6 := H1.out.fr 6
  have f9 := H1.out.fr 9
  have HF := Lib.hid fun (a' : List UInt8) => H1.out.put69 a' false
  have HO := Lib.hid (((OB.out.trans (one_kept w1 g 6 (.string ⟨(s ++ p).toArray⟩)) (fun _ _ h => h)).trans (one_kept (w1.setCell ⟨g, 6, none⟩ (.string ⟨(s ++ p).toArray⟩)) g 9 (.bool false)) (fun _ _ h => h)))
  go_upto_region 5 with fail
  go_region
  refine bodyPost_end (results_none rfl _ _ _) rfl ?_
  rw [byt_app, ← HP.out]
  exact ⟨rfl, HF.out (s ++ p), HO.out.trans (OthersKept.of_below ((Below.refl _ _).drew)) (fun _ _ h => h)⟩
set_option maxHeartbeats 4000000 in
set_option maxRecDepth 100000 in
theorem hnR_u64 (w : World) (g i x : Nat) (kind level id lsn next at_ : Nat) (sv : Value) (s : List UInt8) (hH : HdAt w g kind level id lsn next sv s at_ true false) (hB : w.cell? ⟨g, i, none⟩ = some (.int .u64 x)) (hF : w.frozen? ⟨g, i, none⟩ = false) (hi7 : i < 7) (hin : at_ + 8 ≤ s.length) (hs : s.length ≤ 100000) :
    Calls Try.prog 188 #[.pointer (some ⟨g, 0, none⟩), .pointer (some ⟨g, i, none⟩), .int .i64 8] w fun e w' => e = .returned (.tuple #[]) ∧ ∃ wm, Below w.heap.size w wm ∧ w' = ((wm.setCell ⟨g, i, none⟩ (.int .u64 (rdNum s at_ 8 : Nat))).setCell ⟨g, 9, none⟩ (.bool false)).setCell ⟨g, 7, none⟩ (.int .i64 (at_ + 8 : Nat)) := by
  have GE := fun W => wGet s at_ 8 W (by omega) (by omega) (by omega) (by omega)
  have hd : decide (at_ + 8 ≤ s.length) = true := decide_eq_true hin
  rw [hd] at GE
  have GE := Lib.hid GE
  have hrn := rdN_lt s at_ 8
  simp only [Nat.reducePow] at hrn
  obtain ⟨n, hn⟩ : ∃ n, n = rdNum s at_ 8 := ⟨_, rfl⟩
  rw [← hn] at hrn GE ⊢
  clear hn hd
  obtain ⟨h0, h1, h2, h3, h4, h5, h6, h7, h8, h9⟩ := hH.cells
  have HH := Lib.hid hH
  have hi7a : ¬ i = 7 := by omega
  have hi7b : ¬ 7 = i := by omega
  have hi9a : ¬ i = 9 := by omega
  have hi9b : ¬ 9 = i := by omega
  have KC := Lib.hid fun W (hW : Below w.heap.size w W) => (⟨keep_cell hW h6, keep_cell hW h7⟩ : W.cell? ⟨g, 6, none⟩ = some (.string ⟨s.toArray⟩) ∧ W.cell? ⟨g, 7, none⟩ = some (.int .i64 (at_ : Nat)))
  have D1 : Hid (Below w.heap.size w w.drew) := Lib.hid ((Below.refl _ _).drew)
  have HBC := Lib.hid hB
  have HBF := Lib.hid hF
  have hblt := cell_lt hB
  have w1n : IntKind.u64.wrap (n : Int) = (n : Int) := IntWalk.u64_in _ ⟨by omega, by omega⟩
  have w2n : IntKind.i64.wrap ((at_ : Int) + 8) = ((at_ + 8 : Nat) : Int) := by rw [show ((at_ + 8 : Nat) : Int) = (at_ : Int) + 8 by omega]; exact IntWalk.i64_in _ ⟨by omega, by omega⟩
  clear hH h0 h1 h2 h3 h4 h5
  go_enter Try.func188, Try.ntmps188
  go_upto_region 1 with fail
  go_region_held3 (fun W => W.cell? ⟨g, 6, none⟩ = some (.string ⟨s.toArray⟩) ∧ W.cell? ⟨g, 7, none⟩ = some (.int .i64 (at_ : Nat)))
    (first
      | (with_reducible exact KC.out _ D1.out)
      | (with_reducible exact KC.out _ hb)
      | exact KC.out _ D1.out)
    (first
      | (go_at_call 121; refine (GE.out _).mono ?_; rintro e w1 ⟨rfl, hb0⟩; have hb := below_then D1.out hb0; clear hb0))
  have H1 := HH.out.below hb
  have B1 := keep_cell hb HBC.out
  have F1 : w1.frozen? ⟨g, i, none⟩ = false := (hb.frozen (p := ⟨g, i, none⟩) hblt).trans HBF.out
  have f7 := H1.fr 7
  have f9 := H1.fr 9
  have HBB := Lib.hid hb
  clear h6 h7 h8 h9 hB hF hb
  obtain ⟨h0, h1, h2, h3, h4, h5, h6, h7, h8, h9⟩ := H1.cells
  clear H1 h0 h1 h2 h3 h4 h5 h6
  go_wp2_with fail
  (try simp only [Exit.inBlock, Exit.then])
  refine bodyPost_ret (results_none rfl _ _ _) rfl ?_
  exact ⟨rfl, w1, HBB.out, rfl⟩
set_option maxHeartbeats 4000000 in
set_option maxRecDepth 100000 in
theorem hnW_two (w : World) (g b i x : Nat) (kind level id lsn next at_ : Nat) (sv : Value) (s : List UInt8) (hH : HdAt w g kind level id lsn next sv s at_ false false) (hB : w.cell? ⟨b, i, none⟩ = some (.int .u32 x)) (hx : x < 256 ^ 2) (hs : s.length ≤ 100000) :
    Calls Try.prog 187 #[.pointer (some ⟨g, 0, none⟩), .pointer (some ⟨b, i, none⟩), .int .i64 2] w fun e w' => e = .returned (.tuple #[]) ∧ HdAt w' g kind level id lsn next sv (s ++ be 2 x) at_ false false ∧ OthersKept w w' (fun j => j = g) := by
  simp only [Nat.reducePow] at hx
  have PU := Lib.hid fun W => put_2 x W (by simpa using hx)
  obtain ⟨h0, h1, h2, h3, h4, h5, h6, h7, h8, h9⟩ := hH.cells
  have HH := Lib.hid hH
  clear hH h0 h1 h2 h3 h4 h5 h7
  have v1 : IntKind.u64.wrap (x : Int) = (x : Int) := IntWalk.u64_in _ ⟨by omega, by omega⟩
  go_enter Try.func187, Try.ntmps187
  go_wp2_with fail
  obtain ⟨p, hp⟩ : ∃ p, p = be 2 x := ⟨_, rfl⟩
  have hpl : p.length = 2 := by rw [hp, be_length]
  have hcat : ¬ 9223372036854775807 < s.length + p.length := by omega
  rw [← hp] at PU
  have HP := Lib.hid hp
  clear hp
  refine (PU.out _).mono ?_
  rintro e w1 ⟨rfl, hb⟩
  have H1 := Lib.hid (HH.out.below hb)
  have OB := Lib.hid (OthersKept.of_below (p := fun j => j = g) hb)
  clear hb h6 h8 h9 hB HH
  obtain ⟨h0, h1, h2, h3, h4, h5, h6, h7, h8, h9⟩ := H1.out.cells
  have f6 := H1.out.fr 6
  have f9 := H1.out.fr 9
  have HF := Lib.hid fun (a' : List UInt8) => H1.out.put69 a' false
  have HO := Lib.hid (((OB.out.trans (one_kept w1 g 6 (.string ⟨(s ++ p).toArray⟩)) (fun _ _ h => h)).trans (one_kept (w1.setCell ⟨g, 6, none⟩ (.string ⟨(s ++ p).toArray⟩)) g 9 (.bool false)) (fun _ _ h => h)))
  go_upto_region 5 with fail
  go_region
  refine bodyPost_end (results_none rfl _ _ _) rfl ?_
  rw [byt_app, ← HP.out]
  exact ⟨rfl, HF.out (s ++ p), HO.out.trans (OthersKept.of_below ((Below.refl _ _).drew)) (fun _ _ h => h)⟩
set_option maxHeartbeats 4000000 in
set_option maxRecDepth 100000 in
theorem hnR_two (w : World) (g b i x : Nat) (kind level id lsn next at_ : Nat) (sv : Value) (s : List UInt8) (hH : HdAt w g kind level id lsn next sv s at_ true false) (hB : w.cell? ⟨b, i, none⟩ = some (.int .u32 x)) (hF : w.frozen? ⟨b, i, none⟩ = false) (hbg : b ≠ g) (hin : at_ + 2 ≤ s.length) (hs : s.length ≤ 100000) :
    Calls Try.prog 187 #[.pointer (some ⟨g, 0, none⟩), .pointer (some ⟨b, i, none⟩), .int .i64 2] w fun e w' => e = .returned (.tuple #[]) ∧ ∃ wm, Below w.heap.size w wm ∧ w' = ((wm.setCell ⟨b, i, none⟩ (.int .u32 (rdNum s at_ 2 : Nat))).setCell ⟨g, 9, none⟩ (.bool false)).setCell ⟨g, 7, none⟩ (.int .i64 (at_ + 2 : Nat)) := by
  have GE := fun W => wGet s at_ 2 W (by omega) (by omega) (by omega) (by omega)
  have hd : decide (at_ + 2 ≤ s.length) = true := decide_eq_true hin
  rw [hd] at GE
  have GE := Lib.hid GE
  have hrn := rdN_lt s at_ 2
  simp only [Nat.reducePow] at hrn
  obtain ⟨n, hn⟩ : ∃ n, n = rdNum s at_ 2 := ⟨_, rfl⟩
  rw [← hn] at hrn GE ⊢
  clear hn hd
  obtain ⟨h0, h1, h2, h3, h4, h5, h6, h7, h8, h9⟩ := hH.cells
  have HH := Lib.hid hH
  have hbg1 : ¬ b = g := hbg
  have hbg2 : ¬ g = b := fun e => hbg e.symm
  have KC := Lib.hid fun W (hW : Below w.heap.size w W) => (⟨keep_cell hW h6, keep_cell hW h7⟩ : W.cell? ⟨g, 6, none⟩ = some (.string ⟨s.toArray⟩) ∧ W.cell? ⟨g, 7, none⟩ = some (.int .i64 (at_ : Nat)))
  have D1 : Hid (Below w.heap.size w w.drew) := Lib.hid ((Below.refl _ _).drew)
  have HBC := Lib.hid hB
  have HBF := Lib.hid hF
  have hblt := cell_lt hB
  have w1n : IntKind.u32.wrap (n : Int) = (n : Int) := IntWalk.u32_in _ ⟨by omega, by omega⟩
  have w2n : IntKind.i64.wrap ((at_ : Int) + 2) = ((at_ + 2 : Nat) : Int) := by rw [show ((at_ + 2 : Nat) : Int) = (at_ : Int) + 2 by omega]; exact IntWalk.i64_in _ ⟨by omega, by omega⟩
  clear hH h0 h1 h2 h3 h4 h5
  go_enter Try.func187, Try.ntmps187
  go_upto_region 1 with fail
  go_region_held3 (fun W => W.cell? ⟨g, 6, none⟩ = some (.string ⟨s.toArray⟩) ∧ W.cell? ⟨g, 7, none⟩ = some (.int .i64 (at_ : Nat)))
    (first
      | (with_reducible exact KC.out _ D1.out)
      | (with_reducible exact KC.out _ hb)
      | exact KC.out _ D1.out)
    (first
      | (go_at_call 121; refine (GE.out _).mono ?_; rintro e w1 ⟨rfl, hb0⟩; have hb := below_then D1.out hb0; clear hb0))
  have H1 := HH.out.below hb
  have B1 := keep_cell hb HBC.out
  have F1 : w1.frozen? ⟨b, i, none⟩ = false := (hb.frozen (p := ⟨b, i, none⟩) hblt).trans HBF.out
  have f7 := H1.fr 7
  have f9 := H1.fr 9
  have HBB := Lib.hid hb
  clear h6 h7 h8 h9 hB hF hb
  obtain ⟨h0, h1, h2, h3, h4, h5, h6, h7, h8, h9⟩ := H1.cells
  clear H1 h0 h1 h2 h3 h4 h5 h6
  go_wp2_with fail
  (try simp only [Exit.inBlock, Exit.then])
  refine bodyPost_ret (results_none rfl _ _ _) rfl ?_
  exact ⟨rfl, w1, HBB.out, rfl⟩

end Go.Proofs.Ytienlhnbmobinaa
