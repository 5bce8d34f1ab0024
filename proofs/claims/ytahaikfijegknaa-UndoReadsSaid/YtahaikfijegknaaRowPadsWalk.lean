/- The walk of the law RowPads: it returns true, and nothing that was there is changed. -/
import Derived.Test.YtahaikfijegknaaRows
import Derived.Test.YtahaikfijegknaaRowTellsWalk
import Derived.WalkKit
import Derived.WalkLawsBesides
import Derived.WalkSpells
import Derived.LoopTactic
import Derived.WalkMore
import Derived.LoopN
import Derived.Laws.BitsAllLaws
import Derived.Laws.IdiomStrings
import Derived.BigQuiet
import Derived.Deep.QuietTactic
import Derived.Deep.DeepCutAuto
import Derived.Deep.RegionHeld3
import Derived.Deep.DrawnRows
import Derived.Lib.Hide
import Derived.Outline
import Derived.Deep.DeepMust
import Derived.Handy
namespace Go.Proofs.Ytahaikfijegknaa
open Go.RowKit
set_option linter.unusedVariables false
set_option linter.unusedSimpArgs false

theorem rowPads_long (k v : ByteArray) (m : Bool) (t p s : Nat) (d : Int) (n : Nat) (w : World) (hlong : longRow k v = true) :
    Calls Try.prog 8 #[.agg #[.string k, .bool m, .int .u64 t, .int .u32 p, .int .u16 s, .string v, .int .i64 d], .int .u8 n] w fun e w' => e = .returned (.bool true) ∧ Below w.heap.size w w' := by
  have l := fun W => long07 k v m t p s d W
  rw [hlong] at l
  have L := Lib.hid l
  clear l hlong
  go_enter Try.func8, Try.ntmps8
  go_wp2_with fail
  refine (L.out _).mono ?_
  rintro e w1 ⟨rfl, h1⟩
  have hbw : Below w.heap.size w w1 := ((Below.refl _ _).alloc (Nat.le_refl _) _).trans (h1.mono (by simp))
  have hsz := hbw.size
  clear h1
  go_wp2_with fail
  refine (alive07 _).mono ?_
  rintro e w2 ⟨rfl, h2⟩
  go_wp2_with fail
  go_ret
  exact ⟨rfl, hbw.trans (h2.mono hsz)⟩

theorem rowPads_not (k v : ByteArray) (m : Bool) (t p s : Nat) (d : Int) (n : Nat) (w : World) (hk : k.size ≤ maxLen) (hv : v.size ≤ maxLen) (hlong : longRow k v = false) (hm : mayRow k.size v.size p s d = false) :
    Calls Try.prog 8 #[.agg #[.string k, .bool m, .int .u64 t, .int .u32 p, .int .u16 s, .string v, .int .i64 d], .int .u8 n] w fun e w' => e = .returned (.bool true) ∧ Below w.heap.size w w' := by
  have l := fun W => long07 k v m t p s d W
  rw [hlong] at l
  have m1 := fun W => rowMay_any k v m t p s d W hk hv
  rw [hm] at m1
  have M1 := Lib.hid m1
  have L := Lib.hid l
  clear l m1 hlong hm
  go_enter Try.func8, Try.ntmps8
  go_wp2_with fail
  refine (L.out _).mono ?_
  rintro e w1 ⟨rfl, h1⟩
  have hr := (RowIn.new w k v m t p s d 34).below h1
  have hbw : Below w.heap.size w w1 := ((Below.refl _ _).alloc (Nat.le_refl _) _).trans (h1.mono (by simp))
  clear h1
  generalize hg : w.heap.size = g at hr hbw ⊢
  have Hg := Lib.hid hg
  clear hg
  obtain ⟨g0, g1, g2, g3, g4, g5, g6, g7⟩ := id hr
  go_wp2_with fail
  refine (M1.out _).mono ?_
  rintro e w2 ⟨rfl, h2⟩
  have hbw2 := hbw.trans (h2.mono (Nat.le_of_lt g0))
  have hsz := hbw2.size
  clear h2 hbw
  go_wp2_with fail
  refine (alive07 _).mono ?_
  rintro e w3 ⟨rfl, h3⟩
  go_wp2_with fail
  go_ret
  exact ⟨rfl, by rw [Hg.out]; exact hbw2.trans (h3.mono (by rw [Hg.out] at hsz; exact hsz))⟩

theorem pads_plain (n : Nat) (v : ByteArray) (d : Nat) (hv : v.size ≤ 96) (hd : d ≤ 96) :
    ∃ (r D : Nat) (v2 : ByteArray), D = d + r ∧ r ≤ v.size ∧ (n : Int) % ((v.size : Int) + 1) = r ∧ wrap64 ((v.size : Int) - (r : Int)) = ((v.size - r : Nat) : Int) ∧ (wrap64 ((d : Int) + (r : Int)) = (D : Int) ∧ v.extract 0 (v.size - r) = v2) ∧ v2.size = v.size - r := by
  have h := Nat.mod_lt n (show 0 < v.size + 1 by omega)
  refine ⟨n % (v.size + 1), d + n % (v.size + 1), _, rfl, by omega, by simp, ?_, ⟨?_, rfl⟩, by simp⟩
  · generalize n % (v.size + 1) = r at h ⊢
    rw [IntWalk.wrap64_in _ ⟨by omega, by omega⟩]
    omega
  · generalize n % (v.size + 1) = r at h ⊢
    rw [IntWalk.wrap64_in _ ⟨by omega, by omega⟩]
    omega

set_option maxHeartbeats 2000000 in
set_option maxRecDepth 100000 in
theorem rowPads_main (k v : ByteArray) (m : Bool) (t p s : Nat) (d : Int) (n : Nat) (w : World) (hk : k.size ≤ maxLen) (hv : v.size ≤ maxLen) (hn : n < 256) (hlong : longRow k v = false) (hm : mayRow k.size v.size p s d = true) :
    Calls Try.prog 8 #[.agg #[.string k, .bool m, .int .u64 t, .int .u32 p, .int .u16 s, .string v, .int .i64 d], .int .u8 n] w fun e w' => e = .returned (.bool true) ∧ Below w.heap.size w w' := by
  have l := fun W => long07 k v m t p s d W
  rw [hlong] at l
  have m1 := fun W => rowMay_any k v m t p s d W hk hv
  rw [hm] at m1
  have M1 := Lib.hid m1
  have L := Lib.hid l
  clear l m1 hlong
  have h := mayRow_iff.1 hm
  obtain ⟨d', hd'⟩ := Int.eq_ofNat_of_zero_le h.2.2.1
  subst hd'
  obtain ⟨q1, q2, _, q3, q4, q5, q6⟩ := h
  have hvs : v.size ≤ 96 := by omega
  obtain ⟨r, D, v2, hD, hr1, b2, b3, b4, hz2⟩ := pads_plain n v d' hvs (by omega)
  have B2 := Lib.hid b2
  have B3 := Lib.hid b3
  have B4 := Lib.hid b4
  clear b2 b3 b4
  have hmv2 : v2.size ≤ maxLen := by unfold maxLen at hv ⊢; omega
  have hm1 : mayRow k.size v2.size p s (D : Int) = true := mayRow_iff.2 ⟨q1, q2, by omega, by omega, by omega, q5, q6⟩
  have hm2 : mayRow k.size v2.size p s (d' : Int) = true := mayRow_iff.2 ⟨q1, q2, by omega, by omega, by omega, q5, q6⟩
  have a1 := fun W => rowMay_any k v2 m t p s (D : Int) W hk hmv2
  rw [hm1] at a1
  have A1 := Lib.hid a1
  clear a1
  have Z1 := fun W => rowSize_yes k v2 m t p s D W hk hmv2 hm1
  have Z2 := fun W => rowSize_yes k v2 m t p s d' W hk hmv2 hm2
  have Z0 := fun W => rowSize_yes k v m t p s d' W hk hv hm
  have e0 : 17 + k.size + v.size + d' = 17 + k.size + v.size + d' := rfl
  have e1 : 17 + k.size + v2.size + D = 17 + k.size + v.size + d' := by omega
  obtain ⟨N, hN⟩ : ∃ N, 17 + k.size + v.size + d' = N := ⟨_, rfl⟩
  obtain ⟨M, hM⟩ : ∃ M, 17 + k.size + v2.size + d' = M := ⟨_, rfl⟩
  have hs1 : (N : Int) - (r : Int) = (M : Int) := by omega
  have hs2 : (17 : Int) + (k.size : Int) + (v.size : Int) + (d' : Int) = (N : Int) := by omega
  have hN0 : N < 1000 := by omega
  have hM0 : M < 1000 := by omega
  clear e0
  rw [e1] at Z1
  rw [hN] at Z1 Z0
  rw [hM] at Z2
  have Z0 := Lib.hid Z0
  have Z1 := Lib.hid Z1
  have Z2 := Lib.hid Z2
  clear e1 hN hM
  have HR1 := Lib.hid hr1
  have HZ2 := Lib.hid hz2
  clear hr1 hz2 hD hm1 hm2 hmv2
  have b1 : IntKind.i64.wrap ((v.size : Int) + 1) = (v.size : Int) + 1 := IntWalk.i64_in _ ⟨by omega, by omega⟩
  have hb : 0 ≤ wrap64 ((v.size : Int) - (n : Int) % ((v.size : Int) + 1)) ∧ wrap64 ((v.size : Int) - (n : Int) % ((v.size : Int) + 1)) ≤ (v.size : Int) := by rw [B2.out, B3.out]; exact ⟨Int.natCast_nonneg _, by exact_mod_cast Nat.sub_le _ _⟩
  go_enter Try.func8, Try.ntmps8
  go_wp2_with fail
  refine (L.out _).mono ?_
  rintro e w1 ⟨rfl, h1⟩
  have hr := (RowIn.new w k v m t p s d' 34).below h1
  have hbw : Below w.heap.size w w1 := ((Below.refl _ _).alloc (Nat.le_refl _) _).trans (h1.mono (by simp))
  clear h1
  generalize hg : w.heap.size = g at hr hbw ⊢
  have Hg := Lib.hid hg
  clear hg
  obtain ⟨g0, g1, g2, g3, g4, g5, g6, g7⟩ := id hr
  go_wp2_with fail
  refine (M1.out _).mono ?_
  rintro e w2 ⟨rfl, h2⟩
  have hr2 := hr.below h2
  have hbw2 := hbw.trans (h2.mono (Nat.le_of_lt g0))
  clear g0 g1 g2 g3 g4 g5 g6 g7 hr hbw h2
  obtain ⟨g0, g1, g2, g3, g4, g5, g6, g7⟩ := id hr2
  go_wp2_with fail
  simp only [B2.out, B3.out, B4.out.1, Int.toNat_natCast, B4.out.2]
  have hbw3 := hbw2.trans ((((Below.refl w2.heap.size w2).alloc (Nat.le_refl _) (.cells #[.string k, .bool m, .int .u64 t, .int .u32 p, .int .u16 s, .string v2, .int .i64 (D : Int)] 34)).alloc (by simp) (.cells #[.string k, .bool m, .int .u64 t, .int .u32 p, .int .u16 s, .string v2, .int .i64 (d' : Int)] 34)).mono (Nat.le_of_lt g0))
  have c2 := (RowIn.new w2 k v2 m t p s (D : Int) 34).below ((Below.refl _ _).alloc (Nat.le_refl _) (.cells #[.string k, .bool m, .int .u64 t, .int .u32 p, .int .u16 s, .string v2, .int .i64 (d' : Int)] 34))
  have c3 := RowIn.new (w2.alloc (.cells #[.string k, .bool m, .int .u64 t, .int .u32 p, .int .u16 s, .string v2, .int .i64 (D : Int)] 34)) k v2 m t p s d' 34
  have c1 := hr2.below ((Below.refl w2.heap.size w2).alloc (Nat.le_refl _) (.cells #[.string k, .bool m, .int .u64 t, .int .u32 p, .int .u16 s, .string v2, .int .i64 (D : Int)] 34))
  have c1 := c1.below ((Below.refl _ _).alloc (Nat.le_refl _) (.cells #[.string k, .bool m, .int .u64 t, .int .u32 p, .int .u16 s, .string v2, .int .i64 (d' : Int)] 34))
  have hsz : (w2.alloc (.cells #[.string k, .bool m, .int .u64 t, .int .u32 p, .int .u16 s, .string v2, .int .i64 (D : Int)] 34)).heap.size = w2.heap.size + 1 := by simp
  rw [hsz] at c3
  clear g0 g1 g2 g3 g4 g5 g6 g7 hr2 hbw2 hsz hb b1
  generalize w2.heap.size + 1 = h3 at c3 ⊢
  generalize w2.heap.size = h2 at c2 ⊢
  generalize (w2.alloc _).alloc _ = w3 at c1 c2 c3 hbw3 ⊢
  obtain ⟨g0, g1, g2, g3, g4, g5, g6, g7⟩ := id c1
  obtain ⟨y0, y1, y2, y3, y4, y5, y6, y7⟩ := id c2
  obtain ⟨z0, z1, z2, z3, z4, z5, z6, z7⟩ := id c3
  have e10 := ext_cell g1 g0
  have e11 := ext_cell g2 g0
  have e12 := ext_cell g3 g0
  have e13 := ext_cell g4 g0
  have e14 := ext_cell g5 g0
  have e15 := ext_cell g6 g0
  have e16 := ext_cell g7 g0
  have e20 := ext_cell y1 y0
  have e21 := ext_cell y2 y0
  have e22 := ext_cell y3 y0
  have e23 := ext_cell y4 y0
  have e24 := ext_cell y5 y0
  have e25 := ext_cell y6 y0
  have e26 := ext_cell y7 y0
  have e30 := ext_cell z1 z0
  have e31 := ext_cell z2 z0
  have e32 := ext_cell z3 z0
  have e33 := ext_cell z4 z0
  have e34 := ext_cell z5 z0
  have e35 := ext_cell z6 z0
  have e36 := ext_cell z7 z0
  clear B2 B3 B4 HR1 HZ2 L M1 hm
  refine wp_region_ext w3.heap.size (by kernel_rfl) (by kernel_rfl) ?_
  repeat (go_big_quiet_step (first
    | (go_at_call 27; exact ext_call _ (Nat.le_refl _) (A1.out _))
    | (go_at_call 29; first | with_reducible exact ext_call _ (Nat.le_refl _) (Z0.out _) | with_reducible exact ext_call _ (Nat.le_refl _) (Z1.out _) | with_reducible exact ext_call _ (Nat.le_refl _) (Z2.out _))
    | (go_at_call 24; exact ext_call _ (Nat.le_refl _) (alive07 _))))
  refine wpQuiet_nil ?_
  rintro _ ⟨x, rfl⟩
  have hx := hbw3.trans (x.below.mono (Nat.le_of_lt g0))
  generalize x.val = wz at hx ⊢
  go_wp2_with fail
  go_ret
  exact ⟨rfl, by rw [Hg.out]; exact hx⟩

theorem rowPads_walk (k v : ByteArray) (m : Bool) (t p s : Nat) (d : Int) (n : Nat) (w : World) (hk : k.size ≤ maxLen) (hv : v.size ≤ maxLen) (hn : n < 256) :
    Calls Try.prog 8 #[.agg #[.string k, .bool m, .int .u64 t, .int .u32 p, .int .u16 s, .string v, .int .i64 d], .int .u8 n] w fun e w' => e = .returned (.bool true) ∧ Below w.heap.size w w' := by
  cases hl : longRow k v with
  | true => exact rowPads_long k v m t p s d n w hl
  | false =>
    cases hm : mayRow k.size v.size p s d with
    | true => exact rowPads_main k v m t p s d n w hk hv hn hl hm
    | false => exact rowPads_not k v m t p s d n w hk hv hl hm

end Go.Proofs.Ytahaikfijegknaa
