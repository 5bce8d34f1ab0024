/- ref11: get.one -/
import Derived.Test.YtjcfnfpilladfaaRows
import Derived.Test.YtjcfnfpilladfaaRefGet
import Derived.Test.YtjcfnfpilladfaaRefOnly
import Derived.Test.YtjcfnfpilladfaaOpWrite
import Derived.Test.YtjcfnfpilladfaaOpRead
import Derived.Test.YtjcfnfpilladfaaOpNum
import Derived.Test.YtjcfnfpilladfaaOpPlain
import Derived.Test.YtjcfnfpilladfaaOpPart
import Derived.Test.YtjcfnfpilladfaaOpWord
import Derived.Test.YtjcfnfpilladfaaOpSame
import Derived.Test.YtjcfnfpilladfaaOpLaw
import Derived.Test.YtjcfnfpilladfaaOpIn
import Derived.Test.YtjcfnfpilladfaaTextsMove
import Derived.Test.YtjcfnfpilladfaaTextsP
import Derived.Test.YtjcfnfpilladfaaPlains
import Derived.Test.YtjcfnfpilladfaaBase
import Derived.WalkKit
import Derived.WalkLawsBesides
import Derived.WalkSpells
import Derived.LoopTactic
import Derived.WalkMore
import Derived.LoopN
import Derived.Laws.BitsAllLaws
import Derived.Laws.IdiomStrings
import Derived.BigQuiet
import Derived.Deep.QuietTactic
import Derived.Deep.DeepCutAuto
import Derived.Deep.RegionHeld3
import Derived.Deep.DrawnRows
import Derived.Lib.Hide
import Derived.Outline
import Derived.Deep.DeepMust
import Derived.Handy
namespace Go.Proofs.Ytjcfnfpilladfaa
open Go.RowKit
set_option linter.unusedVariables false
set_option linter.unusedSimpArgs false

def Gd.rows : Nat → Gd → List (List UInt8) × Gd
  | 0, g => ([], g)
  | k + 1, g => if g.bad = true then ([], g) else (g.text.1 :: (Gd.rows k g.text.2).1, (Gd.rows k g.text.2).2)
def Gd.parts (k pg : Nat) (g : Gd) : Od × Gd :=
  match k with
  | 1 => (⟨k, pg, 0, 0, [], [], (g.num 1).1, ((g.num 1).2.num 1).1, (((g.num 1).2.num 1).2.num 4).1⟩, (((g.num 1).2.num 1).2.num 4).2)
  | 2 => (⟨k, pg, (g.num 2).1, 0, (g.num 2).2.text.1, [], 0, 0, 0⟩, (g.num 2).2.text.2)
  | 3 => (⟨k, pg, (g.num 2).1, 0, (g.num 2).2.text.1, [], 0, 0, 0⟩, (g.num 2).2.text.2)
  | 4 => (⟨k, pg, (g.num 2).1, 0, [], [], 0, 0, 0⟩, (g.num 2).2)
  | 5 => (⟨k, pg, (g.num 2).1, 0, [], [], 0, 0, 0⟩, (g.num 2).2)
  | 6 => (⟨k, pg, 0, 0, [], (Gd.rows (g.num 2).1 (g.num 2).2).1, 0, 0, 0⟩, (Gd.rows (g.num 2).1 (g.num 2).2).2)
  | 7 => (⟨k, pg, 0, 0, [], [], 0, 0, (g.num 4).1⟩, (g.num 4).2)
  | 8 => (⟨k, pg, (g.num 2).1, ((g.num 2).2.num 2).1, ((g.num 2).2.num 2).2.text.1, [], 0, 0, 0⟩, ((g.num 2).2.num 2).2.text.2)
  | _ => (⟨k, pg, 0, 0, [], [], 0, 0, 0⟩, g)
def Gd.one (g : Gd) : Od × Gd := Gd.parts (g.num 1).1 ((g.num 1).2.num 4).1 ((g.num 1).2.num 4).2
theorem parts_else (k pg : Nat) (g : Gd) (h : ¬ (1 ≤ k ∧ k ≤ 8)) : Gd.parts k pg g = (⟨k, pg, 0, 0, [], [], 0, 0, 0⟩, g) := by
  unfold Gd.parts
  split <;> first | rfl | (exfalso; omega)
theorem num_to {g : Gd} {k n : Nat} {c : Gd} (h : (n, c) = g.num k) (hk : k = 1 ∨ k = 2 ∨ k = 4) : n < 256 ^ k ∧ c.at_ = g.at_ + k ∧ c.s = g.s := by
  have := num_bounds g k hk
  rw [← h] at this
  exact this
theorem text_to {g : Gd} {t : List UInt8} {c : Gd} (h : (t, c) = g.text) : c.at_ ≤ g.at_ + 65537 ∧ c.s = g.s ∧ t.length ≤ 65535 ∧ (c.bad = false → c.at_ ≤ c.s.length) := by
  have hb := num_bounds g 2 (by omega)
  simp only [Nat.reducePow] at hb
  unfold Gd.text at h
  split at h
  · rename_i hc
    rw [Bool.and_eq_true, decide_eq_true_eq] at hc
    simp only [Prod.mk.injEq] at h
    obtain ⟨rfl, rfl⟩ := h
    refine ⟨by show _ + _ ≤ _; omega, rfl, ?_, fun _ => hc.1⟩
    unfold rdText
    split
    · rw [List.length_take]; omega
    · simp
  · simp only [Prod.mk.injEq] at h
    obtain ⟨rfl, rfl⟩ := h
    exact ⟨by show _ + _ ≤ _; omega, rfl, by simp, fun h => by cases h⟩
/-- The op in one, its get, and what was there. -/
structure OneAt (w0 w : World) (g g2 g3 : Nat) (c : Gd) (o : Od) (sv : Value) : Prop where
  ga : GAt w g c
  oa : OAt w g3 o sv
  za : OAt w g2 Od.zero (.slice none 0 0)
  kp : OthersKept w0 w (fun x => x = g)
  d1 : g < w0.heap.size
  d2 : w0.heap.size ≤ g2
  d3 : g2 < g3
theorem OneAt.call {w0 w w' : World} {g g2 g3 : Nat} {c c' : Gd} {o : Od} {sv : Value} (h : OneAt w0 w g g2 g3 c o sv) (hg : GAt w' g c') (hk : OthersKept w w' (fun x => x = g)) : OneAt w0 w' g g2 g3 c' o sv :=
  ⟨hg, hk.heap h.oa (fun e => by have := h.d1; have := h.d2; have := h.d3; omega), hk.heap h.za (fun e => by have := h.d1; have := h.d2; omega), h.kp.trans hk (fun _ _ h => h), h.d1, h.d2, h.d3⟩
theorem OneAt.set {w0 w : World} {g g2 g3 : Nat} {c : Gd} {o o' : Od} {sv sv' : Value} (h : OneAt w0 w g g2 g3 c o sv) {i : Nat} {V : Value} (ho : OAt (w.setCell ⟨g3, i, none⟩ V) g3 o' sv') : OneAt w0 (w.setCell ⟨g3, i, none⟩ V) g g2 g3 c o' sv' :=
  ⟨set_keep h.ga (by have := h.d1; have := h.d2; have := h.d3; omega), ho, set_keep h.za (by have := h.d3; omega), h.kp.trans (one_kept w g3 i V) (fun k hk e => by have := h.d2; have := h.d3; omega), h.d1, h.d2, h.d3⟩
theorem oat_set {w : World} {g i : Nat} {o o' : Od} {sv sv' V : Value} (h : OAt w g o sv) (he : (#[.int .u8 o.kind, .int .u32 o.page, .int .i64 o.at_, .int .i64 o.off, .string ⟨o.text.toArray⟩, sv, .int .u8 o.pk, .int .u8 o.lv, .int .u32 o.nx] : Array Value).setIfInBounds i V = #[.int .u8 o'.kind, .int .u32 o'.page, .int .i64 o'.at_, .int .i64 o'.off, .string ⟨o'.text.toArray⟩, sv', .int .u8 o'.pk, .int .u8 o'.lv, .int .u32 o'.nx]) : OAt (w.setCell ⟨g, i, none⟩ V) g o' sv' := by
  unfold OAt at *
  have h1 := blk_set h i V
  rwa [he] at h1
theorem num_okk {g : Gd} {k n : Nat} {c : Gd} (h : (n, c) = g.num k) : c.bad = false → c.at_ ≤ c.s.length := by
  unfold Gd.num at h
  split at h
  · rename_i hc
    rw [Bool.and_eq_true, decide_eq_true_eq] at hc
    simp only [Prod.mk.injEq] at h
    rw [h.2]
    exact fun _ => hc.1
  · simp only [Prod.mk.injEq] at h
    rw [h.2]
    intro h; cases h
theorem OneAt.below {w0 w w' : World} {g g2 g3 : Nat} {c : Gd} {o : Od} {sv : Value} (h : OneAt w0 w g g2 g3 c o sv) (hb : Below w.heap.size w w') : OneAt w0 w' g g2 g3 c o sv :=
  ⟨h.ga.below hb, h.oa.below hb, h.za.below hb, h.kp.then_below hb, h.d1, h.d2, h.d3⟩
theorem OneAt.grown {w0 w w' : World} {g g2 g3 n : Nat} {c : Gd} {o : Od} {sv v : Value} {xs : List Value} (h : OneAt w0 w g g2 g3 c o sv) (ho : w.ownsRow w0.heap.size 9 1 v n xs) (hg : w.grownBy w' v.ownBlock) : OneAt w0 w' g g2 g3 c o sv ∧ ∀ j, v.ownBlock = some j → j ≠ g2 ∧ j ≠ g3 := by
  have hd : ∀ j, v.ownBlock = some j → j ≠ g2 ∧ j ≠ g3 := by
    intro j hj
    have h1 := h.oa
    have h2 := h.za
    unfold OAt at h1 h2
    rcases ho.2 with ⟨rfl, _⟩ | ⟨q, cap, cur, rfl, _, hq, _⟩
    · cases hj
    · injection hj with hj
      simp only at hj
      subst hj
      refine ⟨fun e => ?_, fun e => ?_⟩
      · rw [e, h2] at hq
        simp at hq
      · rw [e, h1] at hq
        simp at hq
  refine ⟨⟨(hg.block g (blk_lt h.ga) (fun e => ?_)).trans h.ga, (hg.block g3 (blk_lt h.oa) (fun e => (hd _ e.symm).2 rfl)).trans h.oa, (hg.block g2 (blk_lt h.za) (fun e => (hd _ e.symm).1 rfl)).trans h.za, ?_, h.d1, h.d2, h.d3⟩, hd⟩
  · have := own_ge ho _ e.symm
    have := h.d1
    omega
  · refine h.kp.trans (q := fun k => w0.heap.size ≤ k) ⟨hg.os, hg.tape, hg.output, hg.size, fun k hk hn => hg.block k hk (fun e => hn (own_ge ho _ e.symm))⟩ (fun k hk hq => by omega)
theorem OneAt.apart {w0 w : World} {g g2 g3 n base : Nat} {c : Gd} {o : Od} {sv v : Value} {xs : List Value} (h : OneAt w0 w g g2 g3 c o sv) (ho : w.ownsRow base 9 1 v n xs) : ∀ j, v.ownBlock = some j → j ≠ g2 ∧ j ≠ g3 := by
  intro j hj
  have h1 := h.oa
  have h2 := h.za
  unfold OAt at h1 h2
  rcases ho.2 with ⟨rfl, _⟩ | ⟨q, cap, cur, rfl, _, hq, _⟩
  · cases hj
  · injection hj with hj
    simp only at hj
    subst hj
    refine ⟨fun e => ?_, fun e => ?_⟩
    · rw [e, h2] at hq
      simp at hq
    · rw [e, h1] at hq
      simp at hq
/-- What one leaves. -/
def OnePost (w : World) (g : Nat) (R : Od × Gd) (e : Ending) (w' : World) : Prop := ∃ sv, e = .returned (odV R.1 sv) ∧ w'.ownsRow w.heap.size 9 1 sv R.1.rows.length (strs R.1.rows) ∧ GAt w' g R.2 ∧ OthersKept w w' (fun x => x = g)

theorem one_end {w0 w : World} {g g2 g3 : Nat} {c : Gd} {o : Od} {sv : Value} (h : OneAt w0 w g g2 g3 c o sv) (ho : w.ownsRow w0.heap.size 9 1 sv o.rows.length (strs o.rows)) (hd : ∀ j, sv.ownBlock = some j → j ≠ g2) :
    OAt (((((((((w.setCell ⟨g2, 0, none⟩ (.int .u8 o.kind)).setCell ⟨g2, 1, none⟩ (.int .u32 o.page)).setCell ⟨g2, 2, none⟩ (.int .i64 o.at_)).setCell ⟨g2, 3, none⟩ (.int .i64 o.off)).setCell ⟨g2, 4, none⟩ (.string ⟨o.text.toArray⟩)).setCell ⟨g2, 5, none⟩ sv).setCell ⟨g2, 6, none⟩ (.int .u8 o.pk)).setCell ⟨g2, 7, none⟩ (.int .u8 o.lv)).setCell ⟨g2, 8, none⟩ (.int .u32 o.nx)) g2 o sv ∧ OnePost w0 g (o, c) (.returned (odV o sv)) (((((((((w.setCell ⟨g2, 0, none⟩ (.int .u8 o.kind)).setCell ⟨g2, 1, none⟩ (.int .u32 o.page)).setCell ⟨g2, 2, none⟩ (.int .i64 o.at_)).setCell ⟨g2, 3, none⟩ (.int .i64 o.off)).setCell ⟨g2, 4, none⟩ (.string ⟨o.text.toArray⟩)).setCell ⟨g2, 5, none⟩ sv).setCell ⟨g2, 6, none⟩ (.int .u8 o.pk)).setCell ⟨g2, 7, none⟩ (.int .u8 o.lv)).setCell ⟨g2, 8, none⟩ (.int .u32 o.nx)) := by
  have hk := setOp_kept w g2 o sv
  have h1 : OAt (setOp w g2 o sv) g2 o sv := OAt.put h.za o sv
  have h2 : GAt (setOp w g2 o sv) g c := hk.heap h.ga (fun e => by have := h.d1; have := h.d2; omega)
  have h3 := hk.owns ho (fun j hj e => hd j hj e)
  have h4 := h.kp.trans hk (fun k hk e => by have := h.d2; omega)
  unfold setOp at *
  exact ⟨h1, sv, rfl, h3, h2, h4⟩

set_option maxHeartbeats 4000000 in
set_option maxRecDepth 100000 in
theorem getOne_any (w : World) (g : Nat) (c : Gd) (h : GAt w g c) (hs : c.s.length ≤ 100000) (ha : c.at_ ≤ 200000) :
    Calls Try.prog 67 #[.pointer (some ⟨g, 0, none⟩)] w (OnePost w g c.one) := by
  obtain ⟨R, hR⟩ : ∃ R, R = c.one := ⟨_, rfl⟩
  rw [← hR]
  unfold Gd.one at hR
  obtain ⟨⟨K, c1⟩, q1⟩ : ∃ q, q = c.num 1 := ⟨_, rfl⟩
  rw [← q1] at hR
  simp only at hR
  obtain ⟨⟨pg, c2⟩, q2⟩ : ∃ q, q = c1.num 4 := ⟨_, rfl⟩
  rw [← q2] at hR
  simp only at hR
  obtain ⟨hK, ha1, hs1⟩ := num_to q1 (by omega)
  obtain ⟨hpg, ha2, hs2⟩ := num_to q2 (by omega)
  simp only [Nat.reducePow] at hK hpg
  have gl := h.cells.1
  have N1 := Lib.hid fun W (hG : GAt W g c) => getNum_any W g 1 c hG hs (by omega) (by omega)
  have N2 := Lib.hid fun W (hG : GAt W g c1) => getNum_any W g 4 c1 hG (by rw [hs1]; exact hs) (by omega) (by omega)
  rw [← q1] at N1
  rw [← q2] at N2
  have Z1 : OAt (w.alloc (.cells #[.int .u8 0, .int .u32 0, .int .i64 0, .int .i64 0, .string ⟨#[]⟩, .slice none 0 0, .int .u8 0, .int .u8 0, .int .u32 0] 26)) w.heap.size Od.zero (.slice none 0 0) := heap_alloc_new w _
  have hs2' : c2.s.length ≤ 100000 := by rw [hs2, hs1]; exact hs
  have ha2' : c2.at_ ≤ 200005 := by omega
  have k1 : IntKind.u8.wrap (K : Int) = (K : Int) := IntWalk.u8_in _ ⟨by omega, by omega⟩
  have k2 : IntKind.u32.wrap (pg : Int) = (pg : Int) := IntWalk.u32_in _ ⟨by omega, by omega⟩
  have G1 := h.below (alloc_below w (.cells #[.int .u8 0, .int .u32 0, .int .i64 0, .int .i64 0, .string ⟨#[]⟩, .slice none 0 0, .int .u8 0, .int .u8 0, .int .u32 0] 26))
  have KP1 := Lib.hid (OthersKept.of_below (p := fun x => x = g) (alloc_below w (.cells #[.int .u8 0, .int .u32 0, .int .i64 0, .int .i64 0, .string ⟨#[]⟩, .slice none 0 0, .int .u8 0, .int .u8 0, .int .u32 0] 26)))
  clear h hs ha ha1 hs1 hs2 ha2 q1 q2
  go_enter Try.func67, Try.ntmps67
  go_wp2_with fail
  generalize w.alloc (.cells #[.int .u8 0, .int .u32 0, .int .i64 0, .int .i64 0, .string ⟨#[]⟩, .slice none 0 0, .int .u8 0, .int .u8 0, .int .u32 0] 26) = w1 at *
  refine (N1.out _ G1).mono ?_
  rintro e w2 ⟨rfl, hg, hkp⟩
  have Z2 := hkp.heap Z1 (by omega)
  have KP2 := KP1.out.trans hkp (fun _ _ h => h)
  have hz2 : w.heap.size < w2.heap.size := blk_lt Z2
  have S2 : OneAt w (w2.alloc (.cells #[.int .u8 K, .int .u32 0, .int .i64 0, .int .i64 0, .string ⟨#[]⟩, .slice none 0 0, .int .u8 0, .int .u8 0, .int .u32 0] 26)) g w.heap.size w2.heap.size c1 ⟨K, 0, 0, 0, [], [], 0, 0, 0⟩ (.slice none 0 0) :=
    ⟨hg.below (alloc_below _ _), heap_alloc_new w2 _, heap_keep Z2, KP2.then_below (alloc_below _ _), gl, Nat.le_refl _, hz2⟩
  clear hg hkp Z1 Z2 KP2 KP1 G1 N1
  go_wp2_with fail
  generalize w2.alloc (.cells #[.int .u8 K, .int .u32 0, .int .i64 0, .int .i64 0, .string ⟨#[]⟩, .slice none 0 0, .int .u8 0, .int .u8 0, .int .u32 0] 26) = w3 at *
  obtain ⟨g3, hg3⟩ : ∃ g3, g3 = w2.heap.size := ⟨_, rfl⟩
  rw [← hg3] at S2 ⊢
  clear hg3 hz2
  refine (N2.out _ S2.ga).mono ?_
  rintro e w4 ⟨rfl, hg, hkp⟩
  have S3 := S2.call hg hkp
  have x1 := S3.oa.cells.2.1
  have f1 := blk_frozen S3.oa 1
  have S4 := S3.set (i := 1) (V := .int .u32 pg) (oat_set (o' := ⟨K, pg, 0, 0, [], [], 0, 0, 0⟩) (sv' := .slice none 0 0) S3.oa rfl)
  obtain ⟨x0, _⟩ := S4.oa.cells
  have S := Lib.hid S4
  clear hg hkp S2 S3 N2 S4
  by_cases hk : 1 ≤ K ∧ K ≤ 8
  · rcases kinds hk with rfl | rfl | rfl | rfl | rfl | rfl | rfl | rfl
    · clear hk
      simp only [Gd.parts] at hR
      obtain ⟨⟨n0, d0⟩, p0⟩ : ∃ q, q = c2.num 1 := ⟨_, rfl⟩
      rw [← p0] at hR
      simp only at hR
      obtain ⟨b0, a0, s0⟩ := num_to p0 (by omega)
      simp only [Nat.reducePow] at b0
      have t0 : d0.s.length ≤ 100000 := by rw [s0]; exact hs2'
      have N0 := Lib.hid fun W (hG : GAt W g c2) => getNum_any W g 1 c2 hG hs2' (by omega) (by omega)
      rw [← p0] at N0
      have v0 : IntKind.u8.wrap (n0 : Int) = (n0 : Int) := IntWalk.u8_in _ ⟨by omega, by omega⟩
      obtain ⟨⟨n1, d1⟩, p1⟩ : ∃ q, q = d0.num 1 := ⟨_, rfl⟩
      rw [← p1] at hR
      simp only at hR
      obtain ⟨b1, a1, s1⟩ := num_to p1 (by omega)
      simp only [Nat.reducePow] at b1
      have t1 : d1.s.length ≤ 100000 := by rw [s1]; exact t0
      have N1 := Lib.hid fun W (hG : GAt W g d0) => getNum_any W g 1 d0 hG t0 (by omega) (by omega)
      rw [← p1] at N1
      have v1 : IntKind.u8.wrap (n1 : Int) = (n1 : Int) := IntWalk.u8_in _ ⟨by omega, by omega⟩
      obtain ⟨⟨n2, d2⟩, p2⟩ : ∃ q, q = d1.num 4 := ⟨_, rfl⟩
      rw [← p2] at hR
      simp only at hR
      obtain ⟨b2, a2, s2⟩ := num_to p2 (by omega)
      simp only [Nat.reducePow] at b2
      have t2 : d2.s.length ≤ 100000 := by rw [s2]; exact t1
      have N2 := Lib.hid fun W (hG : GAt W g d1) => getNum_any W g 4 d1 hG t1 (by omega) (by omega)
      rw [← p2] at N2
      have v2 : IntKind.u32.wrap (n2 : Int) = (n2 : Int) := IntWalk.u32_in _ ⟨by omega, by omega⟩
      have HR := Lib.hid hR
      clear hR hs2' ha2' p0 a0 s0 t0 p1 a1 s1 t1 p2 a2 s2 t2
      go_wp2_with fail
      generalize w4.setCell ⟨g3, 1, none⟩ (.int .u32 (pg : Nat)) = wS0 at *
      refine (N0.out _ S.out.ga).mono ?_
      rintro e wN0 ⟨rfl, hg, hkp⟩
      have S3 := S.out.call hg hkp
      have y0 := S3.oa.cells.2.2.2.2.2.2.1
      have z0 := blk_frozen S3.oa 6
      replace S := Lib.hid (S3.set (i := 6) (V := (.int .u8 (n0 : Nat))) (oat_set (o' := ⟨1, pg, 0, 0, [], [], n0, 0, 0⟩) (sv' := .slice none 0 0) S3.oa rfl))
      clear hg hkp S3 N0
      go_wp2_with fail
      generalize wN0.setCell ⟨g3, 6, none⟩ (.int .u8 (n0 : Nat)) = wS1 at *
      refine (N1.out _ S.out.ga).mono ?_
      rintro e wN1 ⟨rfl, hg, hkp⟩
      have S3 := S.out.call hg hkp
      have y1 := S3.oa.cells.2.2.2.2.2.2.2.1
      have z1 := blk_frozen S3.oa 7
      replace S := Lib.hid (S3.set (i := 7) (V := (.int .u8 (n1 : Nat))) (oat_set (o' := ⟨1, pg, 0, 0, [], [], n0, n1, 0⟩) (sv' := .slice none 0 0) S3.oa rfl))
      clear hg hkp S3 N1
      go_wp2_with fail
      generalize wN1.setCell ⟨g3, 7, none⟩ (.int .u8 (n1 : Nat)) = wS2 at *
      refine (N2.out _ S.out.ga).mono ?_
      rintro e wN2 ⟨rfl, hg, hkp⟩
      have S3 := S.out.call hg hkp
      have y2 := S3.oa.cells.2.2.2.2.2.2.2.2
      have z2 := blk_frozen S3.oa 8
      replace S := Lib.hid (S3.set (i := 8) (V := (.int .u32 (n2 : Nat))) (oat_set (o' := ⟨1, pg, 0, 0, [], [], n0, n1, n2⟩) (sv' := .slice none 0 0) S3.oa rfl))
      clear hg hkp S3 N2
      obtain ⟨u0, u1, u2, u3, u4, u5, u6, u7, u8⟩ := S.out.oa.cells
      obtain ⟨r0, r1, r2, r3, r4, r5, r6, r7, r8⟩ := S.out.za.cells
      have fz0 := blk_frozen S.out.za 0
      have fz1 := blk_frozen S.out.za 1
      have fz2 := blk_frozen S.out.za 2
      have fz3 := blk_frozen S.out.za 3
      have fz4 := blk_frozen S.out.za 4
      have fz5 := blk_frozen S.out.za 5
      have fz6 := blk_frozen S.out.za 6
      have fz7 := blk_frozen S.out.za 7
      have fz8 := blk_frozen S.out.za 8
      have E := Lib.hid (one_end S.out (World.ownsRow_nil _ _ _ _) (fun j hj => by cases hj))
      go_upto_region 27 with fail
      generalize wN2.setCell ⟨g3, 8, none⟩ (.int .u32 (n2 : Nat)) = wE at *
      go_wp2_with fail
      (try simp only [Exit.inBlock, Exit.then])
      refine bodyPost_ret (results_op1 (p := 2) (o := ⟨1, pg, 0, 0, [], [], n0, n1, n2⟩) (sv := .slice none 0 0) (by kernel_rfl) _ _ rfl E.out.1) rfl ?_
      rw [HR.out]
      exact E.out.2
    · clear hk
      simp only [Gd.parts] at hR
      obtain ⟨⟨n0, d0⟩, p0⟩ : ∃ q, q = c2.num 2 := ⟨_, rfl⟩
      rw [← p0] at hR
      simp only at hR
      obtain ⟨b0, a0, s0⟩ := num_to p0 (by omega)
      simp only [Nat.reducePow] at b0
      have t0 : d0.s.length ≤ 100000 := by rw [s0]; exact hs2'
      have N0 := Lib.hid fun W (hG : GAt W g c2) => getNum_any W g 2 c2 hG hs2' (by omega) (by omega)
      rw [← p0] at N0
      obtain ⟨⟨n1, d1⟩, p1⟩ : ∃ q, q = d0.text := ⟨_, rfl⟩
      rw [← p1] at hR
      simp only at hR
      obtain ⟨a1, s1, b1, _⟩ := text_to p1
      have t1 : d1.s.length ≤ 100000 := by rw [s1]; exact t0
      have N1 := Lib.hid fun W (hG : GAt W g d0) => getText_any W g d0 hG t0 (by omega)
      rw [← p1] at N1
      have HR := Lib.hid hR
      clear hR hs2' ha2' p0 a0 s0 t0 p1 a1 s1 t1
      go_wp2_with fail
      generalize w4.setCell ⟨g3, 1, none⟩ (.int .u32 (pg : Nat)) = wS0 at *
      refine (N0.out _ S.out.ga).mono ?_
      rintro e wN0 ⟨rfl, hg, hkp⟩
      have S3 := S.out.call hg hkp
      have y0 := S3.oa.cells.2.2.1
      have z0 := blk_frozen S3.oa 2
      replace S := Lib.hid (S3.set (i := 2) (V := (.int .i64 (n0 : Nat))) (oat_set (o' := ⟨2, pg, (n0 : Nat), 0, [], [], 0, 0, 0⟩) (sv' := .slice none 0 0) S3.oa rfl))
      clear hg hkp S3 N0
      go_wp2_with fail
      generalize wN0.setCell ⟨g3, 2, none⟩ (.int .i64 (n0 : Nat)) = wS1 at *
      refine (N1.out _ S.out.ga).mono ?_
      rintro e wN1 ⟨rfl, hg, hkp⟩
      have S3 := S.out.call hg hkp
      have y1 := S3.oa.cells.2.2.2.2.1
      have z1 := blk_frozen S3.oa 4
      replace S := Lib.hid (S3.set (i := 4) (V := (.string ⟨n1.toArray⟩)) (oat_set (o' := ⟨2, pg, (n0 : Nat), 0, n1, [], 0, 0, 0⟩) (sv' := .slice none 0 0) S3.oa rfl))
      clear hg hkp S3 N1
      obtain ⟨u0, u1, u2, u3, u4, u5, u6, u7, u8⟩ := S.out.oa.cells
      obtain ⟨r0, r1, r2, r3, r4, r5, r6, r7, r8⟩ := S.out.za.cells
      have fz0 := blk_frozen S.out.za 0
      have fz1 := blk_frozen S.out.za 1
      have fz2 := blk_frozen S.out.za 2
      have fz3 := blk_frozen S.out.za 3
      have fz4 := blk_frozen S.out.za 4
      have fz5 := blk_frozen S.out.za 5
      have fz6 := blk_frozen S.out.za 6
      have fz7 := blk_frozen S.out.za 7
      have fz8 := blk_frozen S.out.za 8
      have E := Lib.hid (one_end S.out (World.ownsRow_nil _ _ _ _) (fun j hj => by cases hj))
      go_upto_region 27 with fail
      generalize wN1.setCell ⟨g3, 4, none⟩ (.string ⟨n1.toArray⟩) = wE at *
      go_wp2_with fail
      (try simp only [Exit.inBlock, Exit.then])
      refine bodyPost_ret (results_op1 (p := 2) (o := ⟨2, pg, (n0 : Nat), 0, n1, [], 0, 0, 0⟩) (sv := .slice none 0 0) (by kernel_rfl) _ _ rfl E.out.1) rfl ?_
      rw [HR.out]
      exact E.out.2
    · clear hk
      simp only [Gd.parts] at hR
      obtain ⟨⟨n0, d0⟩, p0⟩ : ∃ q, q = c2.num 2 := ⟨_, rfl⟩
      rw [← p0] at hR
      simp only at hR
      obtain ⟨b0, a0, s0⟩ := num_to p0 (by omega)
      simp only [Nat.reducePow] at b0
      have t0 : d0.s.length ≤ 100000 := by rw [s0]; exact hs2'
      have N0 := Lib.hid fun W (hG : GAt W g c2) => getNum_any W g 2 c2 hG hs2' (by omega) (by omega)
      rw [← p0] at N0
      obtain ⟨⟨n1, d1⟩, p1⟩ : ∃ q, q = d0.text := ⟨_, rfl⟩
      rw [← p1] at hR
      simp only at hR
      obtain ⟨a1, s1, b1, _⟩ := text_to p1
      have t1 : d1.s.length ≤ 100000 := by rw [s1]; exact t0
      have N1 := Lib.hid fun W (hG : GAt W g d0) => getText_any W g d0 hG t0 (by omega)
      rw [← p1] at N1
      have HR := Lib.hid hR
      clear hR hs2' ha2' p0 a0 s0 t0 p1 a1 s1 t1
      go_wp2_with fail
      generalize w4.setCell ⟨g3, 1, none⟩ (.int .u32 (pg : Nat)) = wS0 at *
      refine (N0.out _ S.out.ga).mono ?_
      rintro e wN0 ⟨rfl, hg, hkp⟩
      have S3 := S.out.call hg hkp
      have y0 := S3.oa.cells.2.2.1
      have z0 := blk_frozen S3.oa 2
      replace S := Lib.hid (S3.set (i := 2) (V := (.int .i64 (n0 : Nat))) (oat_set (o' := ⟨3, pg, (n0 : Nat), 0, [], [], 0, 0, 0⟩) (sv' := .slice none 0 0) S3.oa rfl))
      clear hg hkp S3 N0
      go_wp2_with fail
      generalize wN0.setCell ⟨g3, 2, none⟩ (.int .i64 (n0 : Nat)) = wS1 at *
      refine (N1.out _ S.out.ga).mono ?_
      rintro e wN1 ⟨rfl, hg, hkp⟩
      have S3 := S.out.call hg hkp
      have y1 := S3.oa.cells.2.2.2.2.1
      have z1 := blk_frozen S3.oa 4
      replace S := Lib.hid (S3.set (i := 4) (V := (.string ⟨n1.toArray⟩)) (oat_set (o' := ⟨3, pg, (n0 : Nat), 0, n1, [], 0, 0, 0⟩) (sv' := .slice none 0 0) S3.oa rfl))
      clear hg hkp S3 N1
      obtain ⟨u0, u1, u2, u3, u4, u5, u6, u7, u8⟩ := S.out.oa.cells
      obtain ⟨r0, r1, r2, r3, r4, r5, r6, r7, r8⟩ := S.out.za.cells
      have fz0 := blk_frozen S.out.za 0
      have fz1 := blk_frozen S.out.za 1
      have fz2 := blk_frozen S.out.za 2
      have fz3 := blk_frozen S.out.za 3
      have fz4 := blk_frozen S.out.za 4
      have fz5 := blk_frozen S.out.za 5
      have fz6 := blk_frozen S.out.za 6
      have fz7 := blk_frozen S.out.za 7
      have fz8 := blk_frozen S.out.za 8
      have E := Lib.hid (one_end S.out (World.ownsRow_nil _ _ _ _) (fun j hj => by cases hj))
      go_upto_region 27 with fail
      generalize wN1.setCell ⟨g3, 4, none⟩ (.string ⟨n1.toArray⟩) = wE at *
      go_wp2_with fail
      (try simp only [Exit.inBlock, Exit.then])
      refine bodyPost_ret (results_op1 (p := 2) (o := ⟨3, pg, (n0 : Nat), 0, n1, [], 0, 0, 0⟩) (sv := .slice none 0 0) (by kernel_rfl) _ _ rfl E.out.1) rfl ?_
      rw [HR.out]
      exact E.out.2
    · clear hk
      simp only [Gd.parts] at hR
      obtain ⟨⟨n0, d0⟩, p0⟩ : ∃ q, q = c2.num 2 := ⟨_, rfl⟩
      rw [← p0] at hR
      simp only at hR
      obtain ⟨b0, a0, s0⟩ := num_to p0 (by omega)
      simp only [Nat.reducePow] at b0
      have t0 : d0.s.length ≤ 100000 := by rw [s0]; exact hs2'
      have N0 := Lib.hid fun W (hG : GAt W g c2) => getNum_any W g 2 c2 hG hs2' (by omega) (by omega)
      rw [← p0] at N0
      have HR := Lib.hid hR
      clear hR hs2' ha2' p0 a0 s0 t0
      go_wp2_with fail
      generalize w4.setCell ⟨g3, 1, none⟩ (.int .u32 (pg : Nat)) = wS0 at *
      refine (N0.out _ S.out.ga).mono ?_
      rintro e wN0 ⟨rfl, hg, hkp⟩
      have S3 := S.out.call hg hkp
      have y0 := S3.oa.cells.2.2.1
      have z0 := blk_frozen S3.oa 2
      replace S := Lib.hid (S3.set (i := 2) (V := (.int .i64 (n0 : Nat))) (oat_set (o' := ⟨4, pg, (n0 : Nat), 0, [], [], 0, 0, 0⟩) (sv' := .slice none 0 0) S3.oa rfl))
      clear hg hkp S3 N0
      obtain ⟨u0, u1, u2, u3, u4, u5, u6, u7, u8⟩ := S.out.oa.cells
      obtain ⟨r0, r1, r2, r3, r4, r5, r6, r7, r8⟩ := S.out.za.cells
      have fz0 := blk_frozen S.out.za 0
      have fz1 := blk_frozen S.out.za 1
      have fz2 := blk_frozen S.out.za 2
      have fz3 := blk_frozen S.out.za 3
      have fz4 := blk_frozen S.out.za 4
      have fz5 := blk_frozen S.out.za 5
      have fz6 := blk_frozen S.out.za 6
      have fz7 := blk_frozen S.out.za 7
      have fz8 := blk_frozen S.out.za 8
      have E := Lib.hid (one_end S.out (World.ownsRow_nil _ _ _ _) (fun j hj => by cases hj))
      go_upto_region 27 with fail
      generalize wN0.setCell ⟨g3, 2, none⟩ (.int .i64 (n0 : Nat)) = wE at *
      go_wp2_with fail
      (try simp only [Exit.inBlock, Exit.then])
      refine bodyPost_ret (results_op1 (p := 2) (o := ⟨4, pg, (n0 : Nat), 0, [], [], 0, 0, 0⟩) (sv := .slice none 0 0) (by kernel_rfl) _ _ rfl E.out.1) rfl ?_
      rw [HR.out]
      exact E.out.2
    · clear hk
      simp only [Gd.parts] at hR
      obtain ⟨⟨n0, d0⟩, p0⟩ : ∃ q, q = c2.num 2 := ⟨_, rfl⟩
      rw [← p0] at hR
      simp only at hR
      obtain ⟨b0, a0, s0⟩ := num_to p0 (by omega)
      simp only [Nat.reducePow] at b0
      have t0 : d0.s.length ≤ 100000 := by rw [s0]; exact hs2'
      have N0 := Lib.hid fun W (hG : GAt W g c2) => getNum_any W g 2 c2 hG hs2' (by omega) (by omega)
      rw [← p0] at N0
      have HR := Lib.hid hR
      clear hR hs2' ha2' p0 a0 s0 t0
      go_wp2_with fail
      generalize w4.setCell ⟨g3, 1, none⟩ (.int .u32 (pg : Nat)) = wS0 at *
      refine (N0.out _ S.out.ga).mono ?_
      rintro e wN0 ⟨rfl, hg, hkp⟩
      have S3 := S.out.call hg hkp
      have y0 := S3.oa.cells.2.2.1
      have z0 := blk_frozen S3.oa 2
      replace S := Lib.hid (S3.set (i := 2) (V := (.int .i64 (n0 : Nat))) (oat_set (o' := ⟨5, pg, (n0 : Nat), 0, [], [], 0, 0, 0⟩) (sv' := .slice none 0 0) S3.oa rfl))
      clear hg hkp S3 N0
      obtain ⟨u0, u1, u2, u3, u4, u5, u6, u7, u8⟩ := S.out.oa.cells
      obtain ⟨r0, r1, r2, r3, r4, r5, r6, r7, r8⟩ := S.out.za.cells
      have fz0 := blk_frozen S.out.za 0
      have fz1 := blk_frozen S.out.za 1
      have fz2 := blk_frozen S.out.za 2
      have fz3 := blk_frozen S.out.za 3
      have fz4 := blk_frozen S.out.za 4
      have fz5 := blk_frozen S.out.za 5
      have fz6 := blk_frozen S.out.za 6
      have fz7 := blk_frozen S.out.za 7
      have fz8 := blk_frozen S.out.za 8
      have E := Lib.hid (one_end S.out (World.ownsRow_nil _ _ _ _) (fun j hj => by cases hj))
      go_upto_region 27 with fail
      generalize wN0.setCell ⟨g3, 2, none⟩ (.int .i64 (n0 : Nat)) = wE at *
      go_wp2_with fail
      (try simp only [Exit.inBlock, Exit.then])
      refine bodyPost_ret (results_op1 (p := 2) (o := ⟨5, pg, (n0 : Nat), 0, [], [], 0, 0, 0⟩) (sv := .slice none 0 0) (by kernel_rfl) _ _ rfl E.out.1) rfl ?_
      rw [HR.out]
      exact E.out.2
    · clear hk
      simp only [Gd.parts] at hR
      obtain ⟨⟨n0, d0⟩, p0⟩ : ∃ q, q = c2.num 2 := ⟨_, rfl⟩
      rw [← p0] at hR
      simp only at hR
      obtain ⟨b0, a0, s0⟩ := num_to p0 (by omega)
      simp only [Nat.reducePow] at b0
      have t0 : d0.s.length ≤ 100000 := by rw [s0]; exact hs2'
      have hok := Lib.hid (num_okk p0)
      have N0 := Lib.hid fun W (hG : GAt W g c2) => getNum_any W g 2 c2 hG hs2' (by omega) (by omega)
      rw [← p0] at N0
      have HR := Lib.hid hR
      have ha0 : d0.at_ ≤ 300000 := by omega
      obtain ⟨i0, hi, hz0, hz1, hz2⟩ := info_parts Try.infoStrM
      have HI := Lib.hid hi
      have HI0 := Lib.hid hz0
      have HI1 := Lib.hid hz1
      have HI2 := Lib.hid hz2
      clear hR hs2' ha2' p0 a0 s0 hi hz0 hz1 hz2
      go_wp2_with fail
      generalize w4.setCell ⟨g3, 1, none⟩ (.int .u32 (pg : Nat)) = wS0 at *
      refine (N0.out _ S.out.ga).mono ?_
      rintro e wN0 ⟨rfl, hg, hkp⟩
      replace S := Lib.hid (S.out.call hg hkp)
      clear hg hkp N0 x0
      go_wp2_with fail
      go_loopw [5] (fun s5 wr => ∃ (i : Nat) (rs : List (List UInt8)) (cc : Gd) (sv : Value), s5 = .int .i64 i ∧ i ≤ n0 ∧ rs.length = i ∧ cc.s.length ≤ 100000 ∧ cc.at_ ≤ 300000 ∧ Hid (cc.bad = false → cc.at_ ≤ cc.s.length) ∧ Hid (OneAt w wr g w.heap.size g3 cc ⟨6, pg, 0, 0, [], rs, 0, 0, 0⟩ sv) ∧ Hid (wr.ownsRow w.heap.size 9 1 sv rs.length (strs rs)) ∧ Hid (Gd.rows n0 d0 = (rs ++ (Gd.rows (n0 - i) cc).1, (Gd.rows (n0 - i) cc).2))) (fun v _ => n0 - (intOf v).toNat)
      case atStart => exact ⟨0, [], d0, .slice none 0 0, rfl, Nat.zero_le _, rfl, t0, ha0, hok, S, Lib.hid (World.ownsRow_nil _ _ _ _), Lib.hid (by simp)⟩
      case round =>
        obtain ⟨i, rs, cc, sv, rfl, hi, hrs, hcs, hca, hcb, HS, HO, HRR⟩ := hrel
        obtain ⟨sb, scp, hsv, hs1, hs2, _⟩ := own_form HO.out
        rw [hrs] at hsv hs1
        subst hsv
        obtain ⟨gl4, l0, l1, l2, lf⟩ := HS.out.ga.cells
        obtain ⟨u0, u1, u2, u3, u4, u5, u6, u7, u8⟩ := HS.out.oa.cells
        by_cases hc : i < n0 ∧ cc.bad = false
        · have hci : (i : Int) < (n0 : Int) := by omega
          have hbd := hc.2
          rw [hbd] at l2
          have hal : cc.at_ ≤ cc.s.length := hcb.out hbd
          obtain ⟨⟨t, c9⟩, p9⟩ : ∃ q, q = cc.text := ⟨_, rfl⟩
          obtain ⟨a9, s9, b9, k9⟩ := text_to p9
          have N9 := Lib.hid fun W (hG : GAt W g cc) => getText_any W g cc hG hcs (by omega)
          rw [← p9] at N9
          have HR9 : Hid (Gd.rows n0 d0 = ((rs ++ [t]) ++ (Gd.rows (n0 - (i + 1)) c9).1, (Gd.rows (n0 - (i + 1)) c9).2)) := by
            show _ = _
            rw [HRR.out, show n0 - i = (n0 - (i + 1)) + 1 by omega, Gd.rows, if_neg (by rw [hbd]; decide), ← p9, List.append_assoc]
            rfl
          have K9 := Lib.hid k9
          have hcs9 : c9.s.length ≤ 100000 := by rw [s9]; exact hcs
          have hca9 : c9.at_ ≤ 300000 := by omega
          have SD := Lib.hid (HS.out.below ((Below.refl wr.heap.size wr).drew))
          have OD := Lib.hid (own_below HO.out ((Below.refl wr.heap.size wr).drew))
          have uf := blk_frozen HS.out.oa 5
          have HC := hc.1
          clear p9 s9 a9 k9 hcb HRR lf hc hbd hal
          go_upto_region 26 with fail
          go_region_law (first
            | (have tokB := ho5; refine step_append_any _ rfl (.tmp 79) (.tmp 82) 24 rfl w.heap.size 9 i0 (.string ⟨#[]⟩) 1 16 Try.underlying24 HI.out HI0.out HI1.out HI2.out rfl (by decide) (.slice sb i scp) rs.length (strs rs) (by rfl) ho5 (.slice (some ⟨w5.heap.size, 0, none⟩) 1 1) 1 [.string ⟨t.toArray⟩] (by rfl) HR5.out (one_str _) (by unfold maxLen; omega) (by omega) hb5 ?_; intro v6 w6 ho6 hg6; have hx6 := S5.out.grown ho5 hg6; have S6 := Lib.hid hx6.1; obtain ⟨b6, c6, hv6, _, _, _⟩ := own_form ho6; subst hv6; have O6 := Lib.hid ho6; have c66 := S6.out.oa.cells.2.2.2.2.2.1; have f66 := blk_frozen S6.out.oa 5; clear ho6 hg6 hx6)
            | (go_simp; go_wp2_with (go_at_call 98; refine (N9.out _ SD.out.ga).mono ?_; rintro e w5 ⟨rfl, hg5, hk5⟩; have S4 := SD.out.call hg5 hk5; have S5 := Lib.hid (S4.below (alloc_below w5 (.cells #[.string ⟨t.toArray⟩] 9))); have ho5 := own_below (hk5.owns OD.out (fun j hj e => by have := own_ge OD.out j hj; omega)) (alloc_below w5 (.cells #[.string ⟨t.toArray⟩] 9)); have HR5 : Hid (Reads (w5.alloc (.cells #[.string ⟨t.toArray⟩] 9)) (.slice (some ⟨w5.heap.size, 0, none⟩) 1 1) 1 1 [.string ⟨t.toArray⟩]) := (.inr ⟨_, 1, rfl, rfl, one_new _ _ _⟩); have hb5 : w.heap.size ≤ (w5.alloc (.cells #[.string ⟨t.toArray⟩] 9)).heap.size := S5.out.kp.size; have u55 := S5.out.oa.cells.2.2.2.2.2.1; have u56 := S4.oa.cells.2.2.2.2.2.1; clear hg5 hk5 S4)))
          all_goals
            have O6r := O6.out
            rw [hrs] at O6r
            have hap := S6.out.apart O6r
            have S7 := Lib.hid (S6.out.set (i := 5) (V := .slice b6 (i + 1) c6) (oat_set (o' := ⟨6, pg, 0, 0, [], rs ++ [t], 0, 0, 0⟩) (sv' := .slice b6 (i + 1) c6) S6.out.oa rfl))
            have O7 : Hid ((w6.setCell ⟨g3, 5, none⟩ (.slice b6 (i + 1) c6)).ownsRow w.heap.size 9 1 (.slice b6 (i + 1) c6) (rs ++ [t]).length (strs (rs ++ [t]))) := by
              show World.ownsRow _ _ _ _ _ _ _
              rw [List.length_append, strs_append, hrs]
              exact own_set_far O6r (fun j hj => (hap j hj).2)
            clear O6r hap O6 S6
            go_wp2_with fail
            exact ⟨⟨i + 1, rs ++ [t], c9, .slice b6 (i + 1) c6, by go_num, by omega, by simp [hrs], hcs9, hca9, K9, S7, O7, HR9⟩, by simp [intOf] <;> omega⟩
        · have hRR : Gd.rows n0 d0 = (rs, cc) := by
            rw [HRR.out]
            by_cases hin : i < n0
            · have hbd : cc.bad = true := by
                cases hb : cc.bad with
                | true => rfl
                | false => exact absurd ⟨hin, hb⟩ hc
              rw [show n0 - i = (n0 - i - 1) + 1 by omega, Gd.rows, if_pos hbd]
              simp
            · rw [show n0 - i = 0 by omega, Gd.rows]
              simp
          have hRX : Hid (R = (⟨6, pg, 0, 0, [], rs, 0, 0, 0⟩, cc)) := by
            show _ = _
            rw [HR.out, hRR]
          obtain ⟨r0, r1, r2, r3, r4, r5, r6, r7, r8⟩ := HS.out.za.cells
          have fz0 := blk_frozen HS.out.za 0
          have fz1 := blk_frozen HS.out.za 1
          have fz2 := blk_frozen HS.out.za 2
          have fz3 := blk_frozen HS.out.za 3
          have fz4 := blk_frozen HS.out.za 4
          have fz5 := blk_frozen HS.out.za 5
          have fz6 := blk_frozen HS.out.za 6
          have fz7 := blk_frozen HS.out.za 7
          have fz8 := blk_frozen HS.out.za 8
          have E := Lib.hid (one_end HS.out HO.out (fun j hj => (HS.out.apart HO.out j hj).1))
          clear hRR HRR HR lf hcb
          by_cases hin : i < n0
          · have hbd : cc.bad = true := by
              cases hb : cc.bad with
              | true => rfl
              | false => exact absurd ⟨hin, hb⟩ hc
            have hci : (i : Int) < (n0 : Int) := by omega
            rw [hbd] at l2
            clear hc hbd
            go_wp2_with fail
            (try simp only [Exit.inBlock, Exit.then])
            refine bodyPost_ret (results_op1 (p := 2) (o := ⟨6, pg, 0, 0, [], rs, 0, 0, 0⟩) (sv := .slice sb i scp) (by kernel_rfl) _ _ rfl E.out.1) rfl ?_
            rw [hRX.out]
            exact E.out.2
          · have hci : ¬ (i : Int) < (n0 : Int) := by omega
            clear hc
            go_wp2_with fail
            (try simp only [Exit.inBlock, Exit.then])
            refine bodyPost_ret (results_op1 (p := 2) (o := ⟨6, pg, 0, 0, [], rs, 0, 0, 0⟩) (sv := .slice sb i scp) (by kernel_rfl) _ _ rfl E.out.1) rfl ?_
            rw [hRX.out]
            exact E.out.2
    · clear hk
      simp only [Gd.parts] at hR
      obtain ⟨⟨n0, d0⟩, p0⟩ : ∃ q, q = c2.num 4 := ⟨_, rfl⟩
      rw [← p0] at hR
      simp only at hR
      obtain ⟨b0, a0, s0⟩ := num_to p0 (by omega)
      simp only [Nat.reducePow] at b0
      have t0 : d0.s.length ≤ 100000 := by rw [s0]; exact hs2'
      have N0 := Lib.hid fun W (hG : GAt W g c2) => getNum_any W g 4 c2 hG hs2' (by omega) (by omega)
      rw [← p0] at N0
      have v0 : IntKind.u32.wrap (n0 : Int) = (n0 : Int) := IntWalk.u32_in _ ⟨by omega, by omega⟩
      have HR := Lib.hid hR
      clear hR hs2' ha2' p0 a0 s0 t0
      go_wp2_with fail
      generalize w4.setCell ⟨g3, 1, none⟩ (.int .u32 (pg : Nat)) = wS0 at *
      refine (N0.out _ S.out.ga).mono ?_
      rintro e wN0 ⟨rfl, hg, hkp⟩
      have S3 := S.out.call hg hkp
      have y0 := S3.oa.cells.2.2.2.2.2.2.2.2
      have z0 := blk_frozen S3.oa 8
      replace S := Lib.hid (S3.set (i := 8) (V := (.int .u32 (n0 : Nat))) (oat_set (o' := ⟨7, pg, 0, 0, [], [], 0, 0, n0⟩) (sv' := .slice none 0 0) S3.oa rfl))
      clear hg hkp S3 N0
      obtain ⟨u0, u1, u2, u3, u4, u5, u6, u7, u8⟩ := S.out.oa.cells
      obtain ⟨r0, r1, r2, r3, r4, r5, r6, r7, r8⟩ := S.out.za.cells
      have fz0 := blk_frozen S.out.za 0
      have fz1 := blk_frozen S.out.za 1
      have fz2 := blk_frozen S.out.za 2
      have fz3 := blk_frozen S.out.za 3
      have fz4 := blk_frozen S.out.za 4
      have fz5 := blk_frozen S.out.za 5
      have fz6 := blk_frozen S.out.za 6
      have fz7 := blk_frozen S.out.za 7
      have fz8 := blk_frozen S.out.za 8
      have E := Lib.hid (one_end S.out (World.ownsRow_nil _ _ _ _) (fun j hj => by cases hj))
      go_upto_region 27 with fail
      generalize wN0.setCell ⟨g3, 8, none⟩ (.int .u32 (n0 : Nat)) = wE at *
      go_wp2_with fail
      (try simp only [Exit.inBlock, Exit.then])
      refine bodyPost_ret (results_op1 (p := 2) (o := ⟨7, pg, 0, 0, [], [], 0, 0, n0⟩) (sv := .slice none 0 0) (by kernel_rfl) _ _ rfl E.out.1) rfl ?_
      rw [HR.out]
      exact E.out.2
    · clear hk
      simp only [Gd.parts] at hR
      obtain ⟨⟨n0, d0⟩, p0⟩ : ∃ q, q = c2.num 2 := ⟨_, rfl⟩
      rw [← p0] at hR
      simp only at hR
      obtain ⟨b0, a0, s0⟩ := num_to p0 (by omega)
      simp only [Nat.reducePow] at b0
      have t0 : d0.s.length ≤ 100000 := by rw [s0]; exact hs2'
      have N0 := Lib.hid fun W (hG : GAt W g c2) => getNum_any W g 2 c2 hG hs2' (by omega) (by omega)
      rw [← p0] at N0
      obtain ⟨⟨n1, d1⟩, p1⟩ : ∃ q, q = d0.num 2 := ⟨_, rfl⟩
      rw [← p1] at hR
      simp only at hR
      obtain ⟨b1, a1, s1⟩ := num_to p1 (by omega)
      simp only [Nat.reducePow] at b1
      have t1 : d1.s.length ≤ 100000 := by rw [s1]; exact t0
      have N1 := Lib.hid fun W (hG : GAt W g d0) => getNum_any W g 2 d0 hG t0 (by omega) (by omega)
      rw [← p1] at N1
      obtain ⟨⟨n2, d2⟩, p2⟩ : ∃ q, q = d1.text := ⟨_, rfl⟩
      rw [← p2] at hR
      simp only at hR
      obtain ⟨a2, s2, b2, _⟩ := text_to p2
      have t2 : d2.s.length ≤ 100000 := by rw [s2]; exact t1
      have N2 := Lib.hid fun W (hG : GAt W g d1) => getText_any W g d1 hG t1 (by omega)
      rw [← p2] at N2
      have HR := Lib.hid hR
      clear hR hs2' ha2' p0 a0 s0 t0 p1 a1 s1 t1 p2 a2 s2 t2
      go_wp2_with fail
      generalize w4.setCell ⟨g3, 1, none⟩ (.int .u32 (pg : Nat)) = wS0 at *
      refine (N0.out _ S.out.ga).mono ?_
      rintro e wN0 ⟨rfl, hg, hkp⟩
      have S3 := S.out.call hg hkp
      have y0 := S3.oa.cells.2.2.1
      have z0 := blk_frozen S3.oa 2
      replace S := Lib.hid (S3.set (i := 2) (V := (.int .i64 (n0 : Nat))) (oat_set (o' := ⟨8, pg, (n0 : Nat), 0, [], [], 0, 0, 0⟩) (sv' := .slice none 0 0) S3.oa rfl))
      clear hg hkp S3 N0
      go_wp2_with fail
      generalize wN0.setCell ⟨g3, 2, none⟩ (.int .i64 (n0 : Nat)) = wS1 at *
      refine (N1.out _ S.out.ga).mono ?_
      rintro e wN1 ⟨rfl, hg, hkp⟩
      have S3 := S.out.call hg hkp
      have y1 := S3.oa.cells.2.2.2.1
      have z1 := blk_frozen S3.oa 3
      replace S := Lib.hid (S3.set (i := 3) (V := (.int .i64 (n1 : Nat))) (oat_set (o' := ⟨8, pg, (n0 : Nat), (n1 : Nat), [], [], 0, 0, 0⟩) (sv' := .slice none 0 0) S3.oa rfl))
      clear hg hkp S3 N1
      go_wp2_with fail
      generalize wN1.setCell ⟨g3, 3, none⟩ (.int .i64 (n1 : Nat)) = wS2 at *
      refine (N2.out _ S.out.ga).mono ?_
      rintro e wN2 ⟨rfl, hg, hkp⟩
      have S3 := S.out.call hg hkp
      have y2 := S3.oa.cells.2.2.2.2.1
      have z2 := blk_frozen S3.oa 4
      replace S := Lib.hid (S3.set (i := 4) (V := (.string ⟨n2.toArray⟩)) (oat_set (o' := ⟨8, pg, (n0 : Nat), (n1 : Nat), n2, [], 0, 0, 0⟩) (sv' := .slice none 0 0) S3.oa rfl))
      clear hg hkp S3 N2
      obtain ⟨u0, u1, u2, u3, u4, u5, u6, u7, u8⟩ := S.out.oa.cells
      obtain ⟨r0, r1, r2, r3, r4, r5, r6, r7, r8⟩ := S.out.za.cells
      have fz0 := blk_frozen S.out.za 0
      have fz1 := blk_frozen S.out.za 1
      have fz2 := blk_frozen S.out.za 2
      have fz3 := blk_frozen S.out.za 3
      have fz4 := blk_frozen S.out.za 4
      have fz5 := blk_frozen S.out.za 5
      have fz6 := blk_frozen S.out.za 6
      have fz7 := blk_frozen S.out.za 7
      have fz8 := blk_frozen S.out.za 8
      have E := Lib.hid (one_end S.out (World.ownsRow_nil _ _ _ _) (fun j hj => by cases hj))
      go_upto_region 27 with fail
      generalize wN2.setCell ⟨g3, 4, none⟩ (.string ⟨n2.toArray⟩) = wE at *
      go_wp2_with fail
      (try simp only [Exit.inBlock, Exit.then])
      refine bodyPost_ret (results_op1 (p := 2) (o := ⟨8, pg, (n0 : Nat), (n1 : Nat), n2, [], 0, 0, 0⟩) (sv := .slice none 0 0) (by kernel_rfl) _ _ rfl E.out.1) rfl ?_
      rw [HR.out]
      exact E.out.2
  · have hR2 := hR
    rw [parts_else K pg c2 hk] at hR2
    have HR := Lib.hid hR2
    clear hR hR2 hs2' ha2'
    have e1 : ((K : Int) == 1) = false := by simp; omega
    have e2 : ((K : Int) == 2) = false := by simp; omega
    have e3 : ((K : Int) == 3) = false := by simp; omega
    have e4 : ((K : Int) == 4) = false := by simp; omega
    have e5 : ((K : Int) == 5) = false := by simp; omega
    have e6 : ((K : Int) == 6) = false := by simp; omega
    have e7 : ((K : Int) == 7) = false := by simp; omega
    have e8 : ((K : Int) == 8) = false := by simp; omega
    obtain ⟨u0, u1, u2, u3, u4, u5, u6, u7, u8⟩ := S.out.oa.cells
    obtain ⟨r0, r1, r2, r3, r4, r5, r6, r7, r8⟩ := S.out.za.cells
    have fz0 := blk_frozen S.out.za 0
    have fz1 := blk_frozen S.out.za 1
    have fz2 := blk_frozen S.out.za 2
    have fz3 := blk_frozen S.out.za 3
    have fz4 := blk_frozen S.out.za 4
    have fz5 := blk_frozen S.out.za 5
    have fz6 := blk_frozen S.out.za 6
    have fz7 := blk_frozen S.out.za 7
    have fz8 := blk_frozen S.out.za 8
    have E := Lib.hid (one_end S.out (World.ownsRow_nil _ _ _ _) (fun j hj => by cases hj))
    clear hk
    go_upto_region 27 with fail
    generalize w4.setCell ⟨g3, 1, none⟩ (.int .u32 (pg : Nat)) = wE at *
    go_wp2_with fail
    (try simp only [Exit.inBlock, Exit.then])
    refine bodyPost_ret (results_op1 (p := 2) (o := ⟨K, pg, 0, 0, [], [], 0, 0, 0⟩) (sv := .slice none 0 0) (by kernel_rfl) _ _ rfl E.out.1) rfl ?_
    rw [HR.out]
    exact E.out.2

end Go.Proofs.Ytjcfnfpilladfaa
