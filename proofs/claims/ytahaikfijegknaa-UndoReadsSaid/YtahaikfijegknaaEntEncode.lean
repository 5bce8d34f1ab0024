/- The contracts of row.EncodeEntry and of the document's answer for it. -/
import Derived.Test.YtahaikfijegknaaRows
import Derived.Test.YtahaikfijegknaaRowRefEncode
import Derived.Test.YtahaikfijegknaaEntPlain
import Derived.WalkKit
import Derived.WalkLawsBesides
import Derived.WalkSpells
import Derived.LoopTactic
import Derived.WalkMore
import Derived.LoopN
import Derived.Laws.BitsAllLaws
import Derived.Laws.IdiomStrings
import Derived.BigQuiet
import Derived.Deep.QuietTactic
import Derived.Deep.DeepCutAuto
import Derived.Deep.RegionHeld3
import Derived.Deep.DrawnRows
import Derived.Lib.Hide
import Derived.Outline
import Derived.Deep.DeepMust
import Derived.Handy
namespace Go.Proofs.Ytahaikfijegknaa
open Go.RowKit
set_option linter.unusedVariables false
set_option linter.unusedSimpArgs false

set_option maxHeartbeats 1000000 in
set_option maxRecDepth 100000 in
theorem entEncode_yes (k : ByteArray) (c : Nat) (w : World) (hm : mayEnt k.size c = true) :
    Calls Try.prog 34 #[.agg #[.string k, .int .u32 c]] w fun e w' => e = .returned (.tuple #[.string ⟨(encEnt k.data.toList c).toArray⟩, .int .i64 0]) ∧ Below w.heap.size w w' := by
  rw [mayEnt_iff] at hm
  obtain ⟨h1, h2, h3⟩ := hm
  have n4 := fun W => number_4 c W (by omega)
  have z4 := be_str 4 c
  have hfin : Hid ((⟨(be 4 c).toArray⟩ : ByteArray) ++ k = ⟨(encEnt k.data.toList c).toArray⟩) := by
    show _ = _
    apply bytes_ext
    simp only [ByteArray.data_append, Array.toList_append, encEnt]
  generalize (⟨(be 4 c).toArray⟩ : ByteArray) = x4 at n4 z4 hfin
  have y4 := Nat.le_of_eq z4
  have N4 := Lib.hid n4
  clear n4 z4
  have hceq : ((c : Int) == 0) = false := by simp; omega
  go_enter Try.func34, Try.ntmps34
  go_upto_region 3 with fail
  have c0 : (w.alloc (.cells #[.string k, .int .u32 c] 47)).cell? ⟨w.heap.size, 0, none⟩ = some (.string k) := by rw [World.cell?_alloc_mark]; rfl
  have c1 : (w.alloc (.cells #[.string k, .int .u32 c] 47)).cell? ⟨w.heap.size, 1, none⟩ = some (.int .u32 c) := by rw [World.cell?_alloc_mark]; rfl
  have hb : Below w.heap.size w (w.alloc (.cells #[.string k, .int .u32 c] 47)) := (Below.refl _ _).alloc (Nat.le_refl _) _
  have hg : w.heap.size < (w.alloc (.cells #[.string k, .int .u32 c] 47)).heap.size := by simp
  generalize w.alloc (.cells #[.string k, .int .u32 c] 47) = w1 at c0 c1 hb hg ⊢
  have e0 := ext_cell c0 hg
  have e1 := ext_cell c1 hg
  refine wp_region_ext w1.heap.size (by kernel_rfl) (by kernel_rfl) ?_
  repeat (go_big_quiet_step ((go_at_call 48; exact ext_call _ (Nat.le_refl _) (N4.out _))))
  refine wpQuiet_nil ?_
  rintro _ ⟨x, rfl⟩
  have hx := hb.trans (x.below.mono (Nat.le_of_lt hg))
  generalize x.val = wz at hx ⊢
  clear e0 e1 c0 c1
  go_wp2_with fail
  go_ret2
  exact ⟨ret_str2 hfin.out, hx⟩

set_option maxHeartbeats 1000000 in
theorem entEncode_no (k : ByteArray) (c : Nat) (w : World) (hk : k.size ≤ maxLen) (hm : mayEnt k.size c = false) :
    Calls Try.prog 34 #[.agg #[.string k, .int .u32 c]] w fun e w' => e = .returned (.tuple #[.string ⟨#[]⟩, .int .i64 2]) ∧ Below w.heap.size w w' := by
  have hm' : ¬ (k.size ≤ 48 ∧ 1 ≤ c ∧ c ≤ 1024) := by rw [← mayEnt_iff, hm]; simp
  clear hm
  unfold maxLen at hk
  by_cases h1 : k.size ≤ 48
  · by_cases h2 : c = 0
    · subst h2
      go_enter Try.func34, Try.ntmps34
      go_wp2_with fail
      go_ret2
      exact ⟨rfl, (Below.refl _ _).alloc (Nat.le_refl _) _⟩
    · have h3 : 1024 < c := by omega
      have hceq : ((c : Int) == 0) = false := by simp; omega
      clear hm'
      go_enter Try.func34, Try.ntmps34
      go_wp2_with fail
      go_ret2
      exact ⟨rfl, (Below.refl _ _).alloc (Nat.le_refl _) _⟩
  · clear hm'
    go_enter Try.func34, Try.ntmps34
    go_wp2_with fail
    go_ret2
    exact ⟨rfl, (Below.refl _ _).alloc (Nat.le_refl _) _⟩

set_option maxHeartbeats 1000000 in
set_option maxRecDepth 100000 in
theorem refEntEncode_yes (k : ByteArray) (c : Nat) (w : World) (hm : mayEnt k.size c = true) :
    Calls Try.prog 35 #[.agg #[.string k, .int .u32 c]] w fun e w' => e = .returned (.tuple #[.string ⟨(encEnt k.data.toList c).toArray⟩, .int .i64 0]) ∧ Below w.heap.size w w' := by
  rw [mayEnt_iff] at hm
  obtain ⟨h1, h2, h3⟩ := hm
  have n4 := fun W => refNum_4 c W (by omega)
  have z4 := be_str 4 c
  have hfin : Hid ((⟨(be 4 c).toArray⟩ : ByteArray) ++ k = ⟨(encEnt k.data.toList c).toArray⟩) := by
    show _ = _
    apply bytes_ext
    simp only [ByteArray.data_append, Array.toList_append, encEnt]
  generalize (⟨(be 4 c).toArray⟩ : ByteArray) = x4 at n4 z4 hfin
  have y4 := Nat.le_of_eq z4
  have N4 := Lib.hid n4
  clear n4 z4
  have hceq : ((c : Int) == 0) = false := by simp; omega
  go_enter Try.func35, Try.ntmps35
  go_upto_region 3 with fail
  have c0 : (w.alloc (.cells #[.string k, .int .u32 c] 47)).cell? ⟨w.heap.size, 0, none⟩ = some (.string k) := by rw [World.cell?_alloc_mark]; rfl
  have c1 : (w.alloc (.cells #[.string k, .int .u32 c] 47)).cell? ⟨w.heap.size, 1, none⟩ = some (.int .u32 c) := by rw [World.cell?_alloc_mark]; rfl
  have hb : Below w.heap.size w (w.alloc (.cells #[.string k, .int .u32 c] 47)) := (Below.refl _ _).alloc (Nat.le_refl _) _
  have hg : w.heap.size < (w.alloc (.cells #[.string k, .int .u32 c] 47)).heap.size := by simp
  generalize w.alloc (.cells #[.string k, .int .u32 c] 47) = w1 at c0 c1 hb hg ⊢
  have e0 := ext_cell c0 hg
  have e1 := ext_cell c1 hg
  refine wp_region_ext w1.heap.size (by kernel_rfl) (by kernel_rfl) ?_
  repeat (go_big_quiet_step ((go_at_call 50; exact ext_call _ (Nat.le_refl _) (N4.out _))))
  refine wpQuiet_nil ?_
  rintro _ ⟨x, rfl⟩
  have hx := hb.trans (x.below.mono (Nat.le_of_lt hg))
  generalize x.val = wz at hx ⊢
  clear e0 e1 c0 c1
  go_wp2_with fail
  go_ret2
  exact ⟨ret_str2 hfin.out, hx⟩

set_option maxHeartbeats 1000000 in
theorem refEntEncode_no (k : ByteArray) (c : Nat) (w : World) (hk : k.size ≤ maxLen) (hm : mayEnt k.size c = false) :
    Calls Try.prog 35 #[.agg #[.string k, .int .u32 c]] w fun e w' => e = .returned (.tuple #[.string ⟨#[]⟩, .int .i64 2]) ∧ Below w.heap.size w w' := by
  have hm' : ¬ (k.size ≤ 48 ∧ 1 ≤ c ∧ c ≤ 1024) := by rw [← mayEnt_iff, hm]; simp
  clear hm
  unfold maxLen at hk
  by_cases h1 : k.size ≤ 48
  · by_cases h2 : c = 0
    · subst h2
      go_enter Try.func35, Try.ntmps35
      go_wp2_with fail
      go_ret2
      exact ⟨rfl, (Below.refl _ _).alloc (Nat.le_refl _) _⟩
    · have h3 : 1024 < c := by omega
      have hceq : ((c : Int) == 0) = false := by simp; omega
      clear hm'
      go_enter Try.func35, Try.ntmps35
      go_wp2_with fail
      go_ret2
      exact ⟨rfl, (Below.refl _ _).alloc (Nat.le_refl _) _⟩
  · clear hm'
    go_enter Try.func35, Try.ntmps35
    go_wp2_with fail
    go_ret2
    exact ⟨rfl, (Below.refl _ _).alloc (Nat.le_refl _) _⟩

end Go.Proofs.Ytahaikfijegknaa
