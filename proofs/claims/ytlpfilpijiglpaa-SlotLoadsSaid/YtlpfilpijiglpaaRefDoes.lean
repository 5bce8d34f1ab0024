/- Both areas, and a call of both. -/
import Derived.Test.YtlpfilpijiglpaaRows
import Derived.Test.YtlpfilpijiglpaaRefSet
import Derived.Test.YtlpfilpijiglpaaRefBytes
import Derived.Test.YtlpfilpijiglpaaSlotLaw
import Derived.Test.YtlpfilpijiglpaaSlotSet
import Derived.Test.YtlpfilpijiglpaaSlotCompact
import Derived.Test.YtlpfilpijiglpaaSlotRemove
import Derived.Test.YtlpfilpijiglpaaSlotPut
import Derived.Test.YtlpfilpijiglpaaAppAny
import Derived.Test.YtlpfilpijiglpaaQuietTail
import Derived.Deep.LoopGhost
import Derived.WalkKit
import Derived.WalkLawsBesides
import Derived.WalkSpells
import Derived.LoopTactic
import Derived.WalkMore
import Derived.LoopN
import Derived.Laws.BitsAllLaws
import Derived.Laws.IdiomStrings
import Derived.BigQuiet
import Derived.Deep.QuietTactic
import Derived.Deep.DeepCutAuto
import Derived.Deep.RegionHeld3
import Derived.Deep.DrawnRows
import Derived.Lib.Hide
import Derived.Outline
import Derived.Deep.DeepMust
import Derived.Handy
namespace Go.Proofs.Ytlpfilpijiglpaa
open Go.RowKit
set_option linter.unusedVariables false
set_option linter.unusedSimpArgs false

theorem OthersKept.area {w w' : World} {p : Nat → Prop} {gA gB cap : Nat} {a : Ar} (hk : OthersKept w w' p) (h : ArAt w gA gB cap a) (h1 : ¬ p gA) (h2 : ¬ p gB) : ArAt w' gA gB cap a :=
  ⟨⟨hk.heap h.area.own h1, hk.row h.area.row h2, h.area.ne⟩, h.room⟩
/-- Both areas in memory, the program's and the document's, as one plain area; they share no block, and none was there ahead. -/
structure Both (B0 gA gC capA g gB cap : Nat) (v : Value) (a : Ar) (w : World) : Prop where
  good : a.Good
  prog : ArAt w gA gC capA a
  ref : RefAt w g gB cap v a
  n1 : gA ≠ g
  n2 : gA ≠ gB
  n3 : gC ≠ g
  n4 : gC ≠ gB
  far : ∀ x, v.ownBlock = some x → x ≠ gA ∧ x ≠ gC ∧ B0 ≤ x
  lA : B0 ≤ gA
  lC : B0 ≤ gC
  lg : B0 ≤ g
  lB : B0 ≤ gB
theorem Both.below {B0 gA gC capA g gB cap : Nat} {v : Value} {a : Ar} {w w' : World} (h : Both B0 gA gC capA g gB cap v a w) (hb : Below w.heap.size w w') : Both B0 gA gC capA g gB cap v a w' :=
  { h with prog := h.prog.below hb, ref := h.ref.below hb }
/-- The program's area behind a call, the document's as it was. -/
theorem Both.refStays {B0 gA gC capA g gB cap : Nat} {v : Value} {a : Ar} {w w' : World} (h : Both B0 gA gC capA g gB cap v a w) (hg : w.grownBy w' (some gC)) : RefAt w' g gB cap v a :=
  h.ref.other hg (Ne.symm h.n3) (Ne.symm h.n4) (fun hx => (h.far _ hx).2.1 rfl)
theorem Both.step {B0 gA gC capA g gB cap : Nat} {v : Value} {a b : Ar} {w w1 w2 : World} (h : Both B0 gA gC capA g gB cap v a w) (hw : B0 ≤ w.heap.size) (hb : b.Good) (hp : ArAt w1 gA gC capA b) (hg : w.grownBy w1 (some gC)) (hr : RefThen w1 g gB cap v b w2) :
    (∃ v', Both B0 gA gC capA g gB cap v' b w2) ∧ OthersKept w w2 (fun k => B0 ≤ k) := by
  obtain ⟨v', hR, hK, hF⟩ := hr
  have hno : ∀ x, refOwn g gB v x → x ≠ gA ∧ x ≠ gC ∧ B0 ≤ x := by
    rintro x (rfl | rfl | hx)
    · exact ⟨Ne.symm h.n1, Ne.symm h.n3, h.lg⟩
    · exact ⟨Ne.symm h.n2, Ne.symm h.n4, h.lB⟩
    · exact h.far x hx
  have hlA := blk_lt hp.area.own
  have hlC := hp.area.row.lt
  refine ⟨⟨v', hb, hK.area hp (fun hx => (hno _ hx).1 rfl) (fun hx => (hno _ hx).2.1 rfl), hR, h.n1, h.n2, h.n3, h.n4, fun x hx => ?_, h.lA, h.lC, h.lg, h.lB⟩, ?_⟩
  · rcases hF x hx with h1 | h1
    · exact h.far x h1
    · have := hg.size
      exact ⟨by omega, by omega, by omega⟩
  · exact (OthersKept.of_grown (p := fun k => B0 ≤ k) hg h.lC).trans hK (fun k _ hx => (hno k hx).2.2)
theorem OthersKept.base {w0 w w' : World} (hb : Below w0.heap.size w0 w) (h : OthersKept w w' (fun k => w0.heap.size ≤ k)) : Below w0.heap.size w0 w' := h.below hb (fun k hk => by omega)
theorem refBytes_any (g gB cap : Nat) (v : Value) (a : Ar) (w : World) (hg : a.Good) (h : RefAt w g gB cap v a) :
    Calls Try.prog 60 #[.pointer (some ⟨g, 0, none⟩)] w fun e w' => e = .returned (.string ⟨a.enc.toArray⟩) ∧ Below w.heap.size w w' := by
  refine (refBytes_begin g gB cap v a w hg.fit (fun p hp => by have := hg.inn2 hp; simp only [Nat.reducePow]; omega) h).mono ?_
  rintro e w' ⟨s, rfl, hs, hb⟩
  exact ⟨ret_str1 (bytes_ext (by rw [hs])), hb⟩
/-- What a call leaves of an area. -/
def Ar.step (a : Ar) (d : Nat) (k : Int) (t : List UInt8) : Ar :=
  if d % 8 = 3 ∨ d % 8 = 4 then (a.set k t).1 else if d % 8 = 5 then (a.remove k).1 else if d % 8 = 6 then a.compact else (a.put k t).1
theorem Ar.Good.step {a : Ar} (h : a.Good) (d : Nat) (k : Int) (t : List UInt8) : (a.step d k t).Good := by
  unfold Ar.step
  split
  · exact (h.set k t).1
  · split
    · exact (h.remove k).1
    · split
      · exact h.compact.1
      · exact (h.put k t).1

set_option maxHeartbeats 4000000 in
set_option maxRecDepth 100000 in
theorem does_any (B0 gA gC capA g gB cap : Nat) (v : Value) (a : Ar) (d : Nat) (k : Int) (s : ByteArray) (w : World) (hd : d < 256) (hs : s.size ≤ 100000) (hk1 : -9223372036854775808 ≤ k) (hk2 : k ≤ 9223372036854775807) (hw : B0 ≤ w.heap.size) (h : Both B0 gA gC capA g gB cap v a w) :
    Calls Try.prog 27 #[.pointer (some ⟨gA, 0, none⟩), .pointer (some ⟨g, 0, none⟩), .agg #[.int .u8 d, .int .i64 k, .string s]] w fun e w' => e = .returned (.bool true) ∧ (∃ v', Both B0 gA gC capA g gB cap v' (a.step d k s.data.toList) w') ∧ OthersKept w w' (fun k => B0 ≤ k) := by
  have hb1 : Below w.heap.size w (w.alloc (.cells #[.int .u8 d, .int .i64 k, .string s] 33)) := (Below.refl _ _).alloc (Nat.le_refl _) _
  have H1 := Lib.hid (h.below hb1)
  have HB1 := Lib.hid hb1
  have HC := Lib.hid (heap_alloc_new w (.cells #[.int .u8 d, .int .i64 k, .string s] 33))
  have hne : ∀ x, (x = gA ∨ x = gC ∨ refOwn g gB v x) → w.heap.size ≠ x := by
    rintro x (rfl | rfl | rfl | rfl | hx)
    · have := blk_lt h.prog.area.own; omega
    · have := h.prog.area.row.lt; omega
    · have := blk_lt h.ref.own; omega
    · have := h.ref.row.lt; omega
    · have := (h.ref.dir.lt x hx).2; omega
  have HNE := Lib.hid hne
  have hG := h.good
  have m8 : ((d : Int)).tmod 8 = ((d % 8 : Nat) : Int) := by rw [Int.tmod_eq_emod_of_nonneg (by omega)]; omega
  have m9 : IntKind.u8.wrap ((d % 8 : Nat) : Int) = ((d % 8 : Nat) : Int) := IntWalk.u8_in _ ⟨by omega, by omega⟩
  clear h hb1 hne
  unfold Ar.step
  have hr8 : d % 8 < 8 := Nat.mod_lt _ (by omega)
  obtain ⟨r, hr⟩ : ∃ r, r = d % 8 := ⟨_, rfl⟩
  rw [← hr] at m8 m9 hr8 ⊢
  have HW := Lib.hid hw
  have KA : Hid (some (⟨w.heap.size, 0, none⟩ : Addr).block ≠ some gC) := by
    show _ ≠ _
    simp
    exact HNE.out _ (.inr (.inl rfl))
  have KR : Hid (∀ (W W' : World) {b : Ar} {i : Nat} {u : Value}, RefThen W g gB cap v b W' → W.cell? ⟨w.heap.size, i, none⟩ = some u → W'.cell? ⟨w.heap.size, i, none⟩ = some u) := by
    show ∀ (W W' : World) {b : Ar} {i : Nat} {u : Value}, _
    rintro W W' b i u ⟨v', _, hK, _⟩ hc
    exact hK.cell hc (fun hx => HNE.out _ (.inr (.inr hx)) rfl)
  by_cases h34 : r = 3 ∨ r = 4
  · rw [if_pos h34]
    have SP := Lib.hid fun W hW => setA gA gC capA k a s W hG hs hW
    have SR := Lib.hid fun W hW => refSet_any g gB cap v a k s W hG hs hW
    have HG2 := Lib.hid ((hG.set k s.data.toList).1)
    have Hr := Lib.hid hr
    clear hr
    rcases h34 with rfl | rfl
    all_goals
      go_enter Try.func27, Try.ntmps27
      go_upto_region 4 with fail
      generalize w.alloc (.cells #[.int .u8 d, .int .i64 k, .string s] 33) = w1 at *
      have p1 : w1.cell? ⟨w.heap.size, 1, none⟩ = some (.int .i64 k) := by rw [blk_cell HC.out 1]; rfl
      have p2 : w1.cell? ⟨w.heap.size, 2, none⟩ = some (.string s) := by rw [blk_cell HC.out 2]; rfl
      go_region_held3 (fun w' => w'.cell? ⟨w.heap.size, 1, none⟩ = some (.int .i64 k) ∧ w'.cell? ⟨w.heap.size, 2, none⟩ = some (.string s)) (first | (with_reducible exact ⟨p1, p2⟩) | exact ⟨gw2.cell (a := ⟨w.heap.size, 1, none⟩) p1 (KA.out), gw2.cell (a := ⟨w.heap.size, 2, none⟩) p2 (KA.out)⟩ | exact ⟨KR.out _ _ hT3 (gw2.cell (a := ⟨w.heap.size, 1, none⟩) p1 (KA.out)), KR.out _ _ hT3 (gw2.cell (a := ⟨w.heap.size, 2, none⟩) p2 (KA.out))⟩ | exact ⟨p1, p2⟩) (first
        | (go_at_call 22; refine (SP.out _ (H1.out.prog.below (Below.refl _ _).drew)).mono ?_; rintro e w2 ⟨rfl, hA2, gw2⟩)
        | (go_at_call 56; refine (SR.out _ ((H1.out.below (Below.refl _ _).drew).refStays gw2)).mono ?_; rintro e w3 ⟨rfl, hT3⟩))
      all_goals
        have HZ := Lib.hid ((H1.out.below (Below.refl _ _).drew).step (Nat.le_trans HW.out HB1.out.size) HG2.out hA2 gw2 hT3)
        go_wp2_with fail
        go_ret
        exact ⟨rfl, HZ.out.1, (OthersKept.of_below HB1.out).trans ((OthersKept.of_below (p := fun k => B0 ≤ k) (Below.refl _ _).drew).trans HZ.out.2 (fun _ _ h => h)) (fun _ _ h => h)⟩
  rw [if_neg h34]
  have n3 : ¬ r = 3 := fun h => h34 (.inl h)
  have n4 : ¬ r = 4 := fun h => h34 (.inr h)
  clear h34
  by_cases h5 : r = 5
  · rw [if_pos h5]
    have SP := Lib.hid fun W hW => removeA gA gC capA k a W hG hW
    have SR := Lib.hid fun W hW => refRemove_any g gB cap v a k W hG hW
    have HG2 := Lib.hid ((hG.remove k).1)
    have Hr := Lib.hid hr
    clear hr
    subst h5
    go_enter Try.func27, Try.ntmps27
    go_upto_region 6 with fail
    generalize w.alloc (.cells #[.int .u8 d, .int .i64 k, .string s] 33) = w1 at *
    have p1 : w1.cell? ⟨w.heap.size, 1, none⟩ = some (.int .i64 k) := by rw [blk_cell HC.out 1]; rfl
    go_region_held3 (fun w' => w'.cell? ⟨w.heap.size, 1, none⟩ = some (.int .i64 k)) (first | (with_reducible exact p1) | exact gw2.cell (a := ⟨w.heap.size, 1, none⟩) p1 (KA.out) | exact KR.out _ _ hT3 (gw2.cell (a := ⟨w.heap.size, 1, none⟩) p1 (KA.out)) | exact p1) (first
      | (go_at_call 17; refine (SP.out _ (H1.out.prog.below (Below.refl _ _).drew)).mono ?_; rintro e w2 ⟨rfl, hA2, gw2⟩)
      | (go_at_call 57; refine (SR.out _ ((H1.out.below (Below.refl _ _).drew).refStays gw2)).mono ?_; rintro e w3 ⟨rfl, hT3⟩))
    all_goals
      have HZ := Lib.hid ((H1.out.below (Below.refl _ _).drew).step (Nat.le_trans HW.out HB1.out.size) HG2.out hA2 gw2 hT3)
      go_wp2_with fail
      go_ret
      exact ⟨rfl, HZ.out.1, (OthersKept.of_below HB1.out).trans ((OthersKept.of_below (p := fun k => B0 ≤ k) (Below.refl _ _).drew).trans HZ.out.2 (fun _ _ h => h)) (fun _ _ h => h)⟩
  rw [if_neg h5]
  by_cases h6 : r = 6
  · rw [if_pos h6]
    have SP := Lib.hid fun W hW => compactA gA gC capA a W hG hW
    have SR := Lib.hid fun W hW => refCompact_any g gB cap v a W hG hW
    have HG2 := Lib.hid (hG.compact.1)
    have Hr := Lib.hid hr
    clear hr
    subst h6
    generalize a.compact.gap - a.gap = gp at *
    go_enter Try.func27, Try.ntmps27
    go_wp2_with fail
    refine (SP.out _ H1.out.prog).mono ?_
    rintro e w2 ⟨rfl, hA2, gw2⟩
    have HA2 := Lib.hid hA2
    have GW2 := Lib.hid gw2
    clear hA2 gw2
    go_wp2_with fail
    refine (SR.out _ (H1.out.refStays GW2.out)).mono ?_
    rintro e w3 ⟨rfl, hR3, hK3⟩
    have HZ := Lib.hid (H1.out.step (Nat.le_trans HW.out HB1.out.size) HG2.out HA2.out GW2.out ⟨v, hR3, hK3, fun _ h => .inl h⟩)
    clear hR3 hK3
    go_wp2_with fail
    go_ret
    exact ⟨rfl, HZ.out.1, (OthersKept.of_below HB1.out).trans HZ.out.2 (fun _ _ h => h)⟩
  rw [if_neg h6]
  have SP := Lib.hid fun W hW => putA gA gC capA k a s W hG hs hW
  have SR := Lib.hid fun W hW => refPut_any g gB cap v a k s W hG hs hW
  have HG2 := Lib.hid ((hG.put k s.data.toList).1)
  have Hr := Lib.hid hr
  clear hr
  go_enter Try.func27, Try.ntmps27
  go_upto_region 9 with fail
  generalize w.alloc (.cells #[.int .u8 d, .int .i64 k, .string s] 33) = w1 at *
  have p1 : w1.cell? ⟨w.heap.size, 1, none⟩ = some (.int .i64 k) := by rw [blk_cell HC.out 1]; rfl
  have p2 : w1.cell? ⟨w.heap.size, 2, none⟩ = some (.string s) := by rw [blk_cell HC.out 2]; rfl
  go_region_held3 (fun w' => w'.cell? ⟨w.heap.size, 1, none⟩ = some (.int .i64 k) ∧ w'.cell? ⟨w.heap.size, 2, none⟩ = some (.string s)) (first | (with_reducible exact ⟨p1, p2⟩) | exact ⟨gw2.cell (a := ⟨w.heap.size, 1, none⟩) p1 (KA.out), gw2.cell (a := ⟨w.heap.size, 2, none⟩) p2 (KA.out)⟩ | exact ⟨KR.out _ _ hT3 (gw2.cell (a := ⟨w.heap.size, 1, none⟩) p1 (KA.out)), KR.out _ _ hT3 (gw2.cell (a := ⟨w.heap.size, 2, none⟩) p2 (KA.out))⟩ | exact ⟨p1, p2⟩) (first
    | (go_at_call 16; refine (SP.out _ (H1.out.prog.below (Below.refl _ _).drew)).mono ?_; rintro e w2 ⟨rfl, hA2, gw2⟩)
    | (go_at_call 59; refine (SR.out _ ((H1.out.below (Below.refl _ _).drew).refStays gw2)).mono ?_; rintro e w3 ⟨rfl, hT3⟩))
  all_goals
    have HZ := Lib.hid ((H1.out.below (Below.refl _ _).drew).step (Nat.le_trans HW.out HB1.out.size) HG2.out hA2 gw2 hT3)
    go_wp2_with fail
    go_ret
    exact ⟨rfl, HZ.out.1, (OthersKept.of_below HB1.out).trans ((OthersKept.of_below (p := fun k => B0 ≤ k) (Below.refl _ _).drew).trans HZ.out.2 (fun _ _ h => h)) (fun _ _ h => h)⟩

end Go.Proofs.Ytlpfilpijiglpaa
