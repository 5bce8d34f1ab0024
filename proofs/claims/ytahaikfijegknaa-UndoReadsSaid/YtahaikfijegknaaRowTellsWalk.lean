/- The walk of the law RowTells: it returns true, and nothing that was there is changed. -/
import Derived.Test.YtahaikfijegknaaRows
import Derived.Test.YtahaikfijegknaaAlive07
import Derived.WalkKit
import Derived.WalkLawsBesides
import Derived.WalkSpells
import Derived.LoopTactic
import Derived.WalkMore
import Derived.LoopN
import Derived.Laws.BitsAllLaws
import Derived.Laws.IdiomStrings
import Derived.BigQuiet
import Derived.Deep.QuietTactic
import Derived.Deep.DeepCutAuto
import Derived.Deep.RegionHeld3
import Derived.Deep.DrawnRows
import Derived.Lib.Hide
import Derived.Outline
import Derived.Deep.DeepMust
import Derived.Handy
namespace Go.Proofs.Ytahaikfijegknaa
open Go.RowKit
set_option linter.unusedVariables false
set_option linter.unusedSimpArgs false

theorem encRow_length (k v : List UInt8) (m : Bool) (t p s d : Nat) : (encRow k v m t p s d).length = 17 + k.length + v.length + d := by
  unfold encRow
  simp [be_length]
  omega
theorem encRow_size (k v : List UInt8) (m : Bool) (t p s d : Nat) : (⟨(encRow k v m t p s d).toArray⟩ : ByteArray).size = 17 + k.length + v.length + d := by
  rw [← encRow_length k v m t p s d]
  show (encRow k v m t p s d).toArray.size = _
  simp

/-- What the law's own look at a row's length gives. -/
def longRow (k v : ByteArray) : Bool := decide (1024 < IntKind.i64.wrap ((k.size : Int) + (v.size : Int)))

theorem long07 (k v : ByteArray) (m : Bool) (t p s : Nat) (d : Int) (w : World) :
    Calls Try.prog 23 #[.agg #[.string k, .bool m, .int .u64 t, .int .u32 p, .int .u16 s, .string v, .int .i64 d]] w fun e w' => e = .returned (.bool (longRow k v)) ∧ Below w.heap.size w w' := by
  unfold longRow
  generalize hx : IntKind.i64.wrap ((k.size : Int) + (v.size : Int)) = x
  go_enter Try.func23, Try.ntmps23
  go_wp2
  go_ret
  refine ⟨ret_bool ?_, (Below.refl _ _).alloc (Nat.le_refl _) _⟩
  first | rfl | (rw [← hx]; rfl) | (rw [← hx, IntWalk.i64_left])

set_option maxHeartbeats 2000000 in
set_option maxRecDepth 100000 in
theorem rowTells_false (k v : ByteArray) (m : Bool) (t p s : Nat) (d : Int) (w : World) (hk : k.size ≤ maxLen) (hv : v.size ≤ maxLen) (ht : t < 256 ^ 8) (hs : s < 256 ^ 2) (hlong : longRow k v = false) (hm : mayRow k.size v.size p s d = false) :
    Calls Try.prog 5 #[.agg #[.string k, .bool m, .int .u64 t, .int .u32 p, .int .u16 s, .string v, .int .i64 d]] w fun e w' => e = .returned (.bool true) ∧ Below w.heap.size w w' := by
  have l := fun W => long07 k v m t p s d W
  rw [hlong] at l
  have m1 := fun W => rowMay_any k v m t p s d W hk hv
  have m2 := fun W => refMay_any k v m t p s d W hk hv
  rw [hm] at m1 m2
  have L := Lib.hid l
  have M1 := Lib.hid m1
  have M2 := Lib.hid m2
  clear l m1 m2 hlong
  have E1 := Lib.hid fun W => rowEncode_no k v m t p s d W hk hv hm
  have E2 := Lib.hid fun W => refEncode_no k v m t p s d W hk hv hm
  have Z := Lib.hid fun W => rowSize_no k v m t p s d W hk hv hm
  clear hm ht hs hk hv
  go_enter Try.func5, Try.ntmps5
  go_wp2_with fail
  refine (L.out _).mono ?_
  rintro e w1 ⟨rfl, h1⟩
  have hr := (RowIn.new w k v m t p s d 34).below h1
  have hbw : Below w.heap.size w w1 := ((Below.refl _ _).alloc (Nat.le_refl _) _).trans (h1.mono (by simp))
  clear h1
  generalize hg : w.heap.size = g at hr hbw ⊢
  have Hg := Lib.hid hg
  clear hg
  obtain ⟨g0, g1, g2, g3, g4, g5, g6, g7⟩ := id hr
  go_wp2_with fail
  refine (E1.out _).mono ?_
  rintro e w2 ⟨rfl, h2⟩
  have hr2 := hr.below h2
  have hbw2 := hbw.trans (h2.mono (Nat.le_of_lt g0))
  clear g0 g1 g2 g3 g4 g5 g6 g7 hr hbw h2
  obtain ⟨g0, g1, g2, g3, g4, g5, g6, g7⟩ := id hr2
  go_wp2_with fail
  refine (E2.out _).mono ?_
  rintro e w3 ⟨rfl, h3⟩
  have hr3 := hr2.below h3
  have hbw3 := hbw2.trans (h3.mono (Nat.le_of_lt g0))
  clear g0 g1 g2 g3 g4 g5 g6 g7 hr2 hbw2 h3
  obtain ⟨g0, g1, g2, g3, g4, g5, g6, g7⟩ := id hr3
  go_wp2_with fail
  have e0 := ext_cell g1 g0
  have e1 := ext_cell g2 g0
  have e2 := ext_cell g3 g0
  have e3 := ext_cell g4 g0
  have e4 := ext_cell g5 g0
  have e5 := ext_cell g6 g0
  have e6 := ext_cell g7 g0
  refine wp_region_ext w3.heap.size (by kernel_rfl) (by kernel_rfl) ?_
  repeat (go_big_quiet_step (first
    | (go_at_call 27; exact ext_call _ (Nat.le_refl _) (M1.out _))
    | (go_at_call 28; exact ext_call _ (Nat.le_refl _) (M2.out _))
    | (go_at_call 29; exact ext_call _ (Nat.le_refl _) (Z.out _))
    | (go_at_call 24; exact ext_call _ (Nat.le_refl _) (alive07 _))))
  refine wpQuiet_nil ?_
  rintro _ ⟨x, rfl⟩
  have hx := hbw3.trans (x.below.mono (Nat.le_of_lt g0))
  generalize x.val = wz at hx ⊢
  go_wp2_with fail
  go_ret
  exact ⟨rfl, by rw [Hg.out]; exact hx⟩

set_option maxHeartbeats 2000000 in
set_option maxRecDepth 100000 in
theorem rowTells_true (k v : ByteArray) (m : Bool) (t p s : Nat) (d : Int) (w : World) (hk : k.size ≤ maxLen) (hv : v.size ≤ maxLen) (ht : t < 256 ^ 8) (hs : s < 256 ^ 2) (hlong : longRow k v = false) (hm : mayRow k.size v.size p s d = true) :
    Calls Try.prog 5 #[.agg #[.string k, .bool m, .int .u64 t, .int .u32 p, .int .u16 s, .string v, .int .i64 d]] w fun e w' => e = .returned (.bool true) ∧ Below w.heap.size w w' := by
  have l := fun W => long07 k v m t p s d W
  rw [hlong] at l
  have m1 := fun W => rowMay_any k v m t p s d W hk hv
  have m2 := fun W => refMay_any k v m t p s d W hk hv
  rw [hm] at m1 m2
  have L := Lib.hid l
  have M1 := Lib.hid m1
  have M2 := Lib.hid m2
  clear l m1 m2 hlong
  have h := mayRow_iff.1 hm
  obtain ⟨d', hd'⟩ := Int.eq_ofNat_of_zero_le h.2.2.1
  subst hd'
  have E1 := Lib.hid fun W => rowEncode_yes k v m t p s d' W hk hv ht hs hm
  have E2 := Lib.hid fun W => refEncode_yes k v m t p s d' W hk hv ht hs hm
  have Z := Lib.hid fun W => rowSize_yes k v m t p s d' W hk hv hm
  have hz : ((17 + k.size + v.size + d' : Nat) : Int) = ((⟨(encRow k.data.toList v.data.toList m t p s d').toArray⟩ : ByteArray).size : Int) := by rw [encRow_size]; simp
  have hl : (⟨(encRow k.data.toList v.data.toList m t p s d').toArray⟩ : ByteArray).size ≤ 1000 := by rw [encRow_size]; simp; omega
  rw [hz] at Z
  clear h hz
  generalize (⟨(encRow k.data.toList v.data.toList m t p s d').toArray⟩ : ByteArray) = x at *
  clear hm ht hs hk hv
  go_enter Try.func5, Try.ntmps5
  go_wp2_with fail
  refine (L.out _).mono ?_
  rintro e w1 ⟨rfl, h1⟩
  have hr := (RowIn.new w k v m t p s (d' : Int) 34).below h1
  have hbw : Below w.heap.size w w1 := ((Below.refl _ _).alloc (Nat.le_refl _) _).trans (h1.mono (by simp))
  clear h1
  generalize hg : w.heap.size = g at hr hbw ⊢
  have Hg := Lib.hid hg
  clear hg
  obtain ⟨g0, g1, g2, g3, g4, g5, g6, g7⟩ := id hr
  go_wp2_with fail
  refine (E1.out _).mono ?_
  rintro e w2 ⟨rfl, h2⟩
  have hr2 := hr.below h2
  have hbw2 := hbw.trans (h2.mono (Nat.le_of_lt g0))
  clear g0 g1 g2 g3 g4 g5 g6 g7 hr hbw h2
  obtain ⟨g0, g1, g2, g3, g4, g5, g6, g7⟩ := id hr2
  go_wp2_with fail
  refine (E2.out _).mono ?_
  rintro e w3 ⟨rfl, h3⟩
  have hr3 := hr2.below h3
  have hbw3 := hbw2.trans (h3.mono (Nat.le_of_lt g0))
  clear g0 g1 g2 g3 g4 g5 g6 g7 hr2 hbw2 h3
  obtain ⟨g0, g1, g2, g3, g4, g5, g6, g7⟩ := id hr3
  go_wp2_with fail
  have e0 := ext_cell g1 g0
  have e1 := ext_cell g2 g0
  have e2 := ext_cell g3 g0
  have e3 := ext_cell g4 g0
  have e4 := ext_cell g5 g0
  have e5 := ext_cell g6 g0
  have e6 := ext_cell g7 g0
  refine wp_region_ext w3.heap.size (by kernel_rfl) (by kernel_rfl) ?_
  repeat (go_big_quiet_step (first
    | (go_at_call 27; exact ext_call _ (Nat.le_refl _) (M1.out _))
    | (go_at_call 28; exact ext_call _ (Nat.le_refl _) (M2.out _))
    | (go_at_call 29; exact ext_call _ (Nat.le_refl _) (Z.out _))
    | (go_at_call 24; exact ext_call _ (Nat.le_refl _) (alive07 _))))
  refine wpQuiet_nil ?_
  rintro _ ⟨x, rfl⟩
  have hx := hbw3.trans (x.below.mono (Nat.le_of_lt g0))
  generalize x.val = wz at hx ⊢
  go_wp2_with fail
  go_ret
  exact ⟨rfl, by rw [Hg.out]; exact hx⟩

theorem rowTells_long (k v : ByteArray) (m : Bool) (t p s : Nat) (d : Int) (w : World) (hlong : longRow k v = true) :
    Calls Try.prog 5 #[.agg #[.string k, .bool m, .int .u64 t, .int .u32 p, .int .u16 s, .string v, .int .i64 d]] w fun e w' => e = .returned (.bool true) ∧ Below w.heap.size w w' := by
  have l := fun W => long07 k v m t p s d W
  rw [hlong] at l
  have L := Lib.hid l
  clear l hlong
  go_enter Try.func5, Try.ntmps5
  go_wp2_with fail
  refine (L.out _).mono ?_
  rintro e w1 ⟨rfl, h1⟩
  have hbw : Below w.heap.size w w1 := ((Below.refl _ _).alloc (Nat.le_refl _) _).trans (h1.mono (by simp))
  have hsz := hbw.size
  clear h1
  go_wp2_with fail
  refine (alive07 _).mono ?_
  rintro e w2 ⟨rfl, h2⟩
  go_wp2_with fail
  go_ret
  exact ⟨rfl, hbw.trans (h2.mono hsz)⟩

theorem rowTells_walk (k v : ByteArray) (m : Bool) (t p s : Nat) (d : Int) (w : World) (hk : k.size ≤ maxLen) (hv : v.size ≤ maxLen) (ht : t < 256 ^ 8) (hs : s < 256 ^ 2) :
    Calls Try.prog 5 #[.agg #[.string k, .bool m, .int .u64 t, .int .u32 p, .int .u16 s, .string v, .int .i64 d]] w fun e w' => e = .returned (.bool true) ∧ Below w.heap.size w w' := by
  cases hl : longRow k v with
  | true => exact rowTells_long k v m t p s d w hl
  | false =>
    cases hm : mayRow k.size v.size p s d with
    | true => exact rowTells_true k v m t p s d w hk hv ht hs hl hm
    | false => exact rowTells_false k v m t p s d w hk hv ht hs hl hm

end Go.Proofs.Ytahaikfijegknaa
