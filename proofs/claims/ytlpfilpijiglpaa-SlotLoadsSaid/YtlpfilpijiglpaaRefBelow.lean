/- The document's area: below copies the text byte for byte. -/
import Derived.Test.YtlpfilpijiglpaaRows
import Derived.Test.YtlpfilpijiglpaaRefBase
import Derived.Test.YtlpfilpijiglpaaSlotLaw
import Derived.WalkKit
import Derived.WalkLawsBesides
import Derived.WalkSpells
import Derived.LoopTactic
import Derived.WalkMore
import Derived.LoopN
import Derived.Laws.BitsAllLaws
import Derived.Laws.IdiomStrings
import Derived.BigQuiet
import Derived.Deep.QuietTactic
import Derived.Deep.DeepCutAuto
import Derived.Deep.RegionHeld3
import Derived.Deep.DrawnRows
import Derived.Lib.Hide
import Derived.Outline
import Derived.Deep.DeepMust
import Derived.Handy
namespace Go.Proofs.Ytlpfilpijiglpaa
open Go.RowKit
set_option linter.unusedVariables false
set_option linter.unusedSimpArgs false

theorem RefAt.other {w w' : World} {g gB cap k : Nat} {v : Value} {a : Ar} (h : RefAt w g gB cap v a) (hg : w.grownBy w' (some k)) (h1 : g ≠ k) (h2 : gB ≠ k) (h3 : v.ownBlock ≠ some k) : RefAt w' g gB cap v a :=
  ⟨(hg.block _ (blk_lt h.own) (by simp; exact h1)).trans h.own, h.row.of_eq (hg.block _ h.row.lt (by simp; exact h2)), h.dir.kept hg (.inr h3), h.ne, h.far, h.room⟩
theorem Ar.below_eq (a : Ar) (s : List UInt8) : a.below s = { a with B := putAt a.B (a.low - s.length) s, low := a.low - s.length } := rfl

set_option maxHeartbeats 4000000 in
set_option maxRecDepth 100000 in
theorem refBelow_any (g gB cap : Nat) (v : Value) (a : Ar) (s : ByteArray) (w : World) (ha : a.Fit) (hr : s.size ≤ a.low) (h : RefAt w g gB cap v a) :
    Calls Try.prog 80 #[.pointer (some ⟨g, 0, none⟩), .string s] w fun e w' => e = .returned (.agg #[.int .i64 ((a.low - s.size : Nat) : Int), .int .i64 (s.size : Nat)]) ∧ RefAt w' g gB cap v (a.below s.data.toList) ∧ OthersKept w w' (fun k => k = g ∨ k = gB) := by
  have hsl : s.data.toList.length = s.size := by simp
  have b1 := ha.l
  have b2 := ha.hi
  have hb0 : Below w.heap.size w (w.alloc (.cells #[.int .i64 0, .int .i64 0] 93)) := (Below.refl _ _).alloc (Nat.le_refl _) _
  have H0 := Lib.hid (h.below hb0)
  have hgl : g < w.heap.size := blk_lt h.own
  have hgB : gB < w.heap.size := h.row.lt
  obtain ⟨low, hlow⟩ : ∃ x, x = a.low - s.size := ⟨_, rfl⟩
  have hw : IntKind.i64.wrap ((a.low : Int) - (s.size : Int)) = (low : Int) := by rw [show ((low : Nat) : Int) = (a.low : Int) - (s.size : Int) by omega]; exact IntWalk.i64_in _ ⟨by omega, by omega⟩
  have c1 := H0.out.c1
  have hne := h.ne
  have hvl := fun k hk => (h.dir.lt k hk).2
  have hroom := h.room
  have f1 := blk_frozen H0.out.own 1
  have hs1 := h.set_low low
  have hb1 : Below (w.setCell ⟨g, 1, none⟩ (.int .i64 low)).heap.size (w.setCell ⟨g, 1, none⟩ (.int .i64 low)) ((w.setCell ⟨g, 1, none⟩ (.int .i64 low)).alloc (.cells #[.int .i64 0, .int .i64 0] 93)) := (Below.refl _ _).alloc (Nat.le_refl _) _
  have H1 := Lib.hid (hs1.below hb1)
  have K1 : OthersKept w ((w.setCell ⟨g, 1, none⟩ (.int .i64 low)).alloc (.cells #[.int .i64 0, .int .i64 0] 93)) (fun k => k = g ∨ k = gB) :=
    (OthersKept.of_grown (p := fun k => k = g ∨ k = gB) (grown_set (grown_refl _ g)) (.inl rfl)).trans (OthersKept.of_below hb1) (fun _ _ h => h)
  have HK1 := Lib.hid K1
  have B1 : Hid (((w.setCell ⟨g, 1, none⟩ (.int .i64 low)).alloc (.cells #[.int .i64 0, .int .i64 0] 93)).heap[w.heap.size]? = some (.cells #[.int .i64 0, .int .i64 0] 93)) := by
    have := heap_alloc_new (w.setCell ⟨g, 1, none⟩ (.int .i64 low)) (.cells #[.int .i64 0, .int .i64 0] 93)
    have e : (w.setCell ⟨g, 1, none⟩ (.int .i64 low)).heap.size = w.heap.size := by simp
    rw [e] at this; exact this
  have hres2 : Hid (a.below s.data.toList = { a with B := putAt a.B low s.data.toList, low := low }) := by show _ = _; rw [Ar.below_eq, hsl, hlow]
  have hzz : Hid (low + s.size ≤ a.B.length) := by show low + s.size ≤ a.B.length; omega
  have hf2 : Hid (low = a.low - s.size) := hlow
  clear h hb0 K1 hs1 hb1
  go_enter Try.func80, Try.ntmps80
  go_wp2_with fail
  rw [← hf2.out]
  clear hw c1 f1
  go_loopw [5] (fun s5 wr => ∃ i : Nat, i ≤ s.size ∧ s5 = .int .i64 i ∧ RefAt wr g gB cap v { a with B := putAt a.B low (s.data.toList.take i), low := low } ∧ OthersKept w wr (fun k => k = g ∨ k = gB) ∧ wr.heap[w.heap.size]? = some (.cells #[.int .i64 0, .int .i64 0] 93)) (fun i _ => s.size - (intOf i).toNat)
  case atStart => exact ⟨0, Nat.zero_le _, rfl, by rw [List.take_zero, putAt_nil]; exact H1.out, HK1.out, B1.out⟩
  case round =>
    obtain ⟨i, hi, rfl, hA, hK, hB⟩ := hrel
    have HA := Lib.hid hA
    have HK := Lib.hid hK
    have HB := Lib.hid hB
    have hz := hzz.out
    by_cases hc : i < s.size
    · have hlen : (putAt a.B low (s.data.toList.take i)).length = a.B.length := putAt_len (by simp; omega)
      have c0 := hA.c0
      have c1 := hA.c1
      have hrow : RowAt wr gB (putAt a.B low (s.data.toList.take i)) := hA.row
      have hf := hrow.frozen (low + i) (by omega)
      have hcx := hrow.cell (low + i) (by omega)
      simp only at c0 c1
      rw [hlen] at c0
      have hst := putAt_step a.B low i s.data.toList (by omega) (by omega)
      have hsi : s.data.toList[i]'(by omega) = s[i]'hc := by simp; rfl
      rw [hsi] at hst
      have HS := Lib.hid (hA.set_byte (low + i) (s[i]'hc) (by simp only; omega))
      have HT := Lib.hid hst
      generalize (((putAt a.B low (s.data.toList.take i))[low + i]'(by omega)).toNat : Int) = qq at hcx
      clear hA hK hB hrow hst
      have hwl : IntKind.i64.wrap ((low : Int) + (i : Int)) = ((low + i : Nat) : Int) := by rw [show (low : Int) + (i : Int) = ((low + i : Nat) : Int) by omega]; exact IntWalk.i64_in _ ⟨by omega, by omega⟩
      clear hlow
      have hki : low + i < a.B.length := by omega
      generalize hkk : low + i = kk at *
      have hqx : ((kk : Nat) : Int) < (a.B.length : Int) := by omega
      have hqy : ((i : Nat) : Int) < (s.size : Int) := by omega
      have hqz : ¬ ((kk : Nat) : Int) < 0 := by omega
      have hqw : ¬ ((i : Nat) : Int) < 0 := by omega
      have hcx2 : wr.cell? ⟨gB, kk, none⟩ = some (.int .u8 qq) := hcx
      go_upto_region 5 with fail
      go_region_held3 (fun w' => w'.cell? ⟨g, 0, none⟩ = some (.slice (some ⟨gB, 0, none⟩) a.B.length cap) ∧ w'.cell? ⟨g, 1, none⟩ = some (.int .i64 low)) (first | (with_reducible exact ⟨c0, c1⟩) | exact ⟨cell_set_far c0 hne, cell_set_far c1 hne⟩ | exact ⟨c0, c1⟩) (fail)
      all_goals go_wp2_with fail
      all_goals go_roundw
      case rel =>
        have hr2 := HS.out.below ((Below.refl _ _).drew)
        simp only at hr2
        rw [HT.out] at hr2
        refine ⟨i + 1, by omega, by go_num, hr2, ?_, (set_keep HB.out (by omega))⟩
        exact HK.out.trans (OthersKept.of_grown (p := fun k => k = g ∨ k = gB) (g := gB) (grown_step ((Below.refl _ _)) (grown_trans (grown_set (grown_refl _ gB)) (grown_below _ ((Below.refl _ _).drew)))) (.inr rfl)) (fun _ _ h => h)
      case measure => simp [intOf]; omega
    · obtain rfl : i = s.size := by omega
      have c1 := hA.c1
      simp only at c1
      have d0 := blk_cell hB 0
      have d1 := blk_cell hB 1
      have e0 := blk_frozen hB 0
      have e1 := blk_frozen hB 1
      clear hA hK hB hlow
      go_wp2_with fail
      have hfull : s.data.toList.take s.size = s.data.toList := List.take_of_length_le (by omega)
      have hA2 := (HA.out.other (k := w.heap.size) (grown_set (u := .int .i64 low) (i := 0) (grown_refl _ w.heap.size)) (by omega) (by omega) (fun h => Nat.lt_irrefl _ (hvl _ h))).other (k := w.heap.size) (grown_set (u := .int .i64 s.size) (i := 1) (grown_refl _ w.heap.size)) (by omega) (by omega) (fun h => Nat.lt_irrefl _ (hvl _ h))
      rw [hfull] at hA2
      have b0 := blk_set (blk_set HB.out 0 (.int .i64 low)) 1 (.int .i64 s.size)
      have q0 := blk_cell b0 0
      have q1 := blk_cell b0 1
      rw [← hf2.out]
      refine bodyPost_ret (v := .agg #[.int .i64 low, .int .i64 s.size]) (by simp [results, Try.results80, go_sem, q0, q1]) rfl ⟨rfl, by rw [hres2.out]; exact hA2, ?_⟩
      exact HK.out.trans (OthersKept.of_grown (p := fun k => w.heap.size ≤ k) (g := w.heap.size) (grown_set (grown_set (grown_refl _ w.heap.size))) (Nat.le_refl _)) (fun k hk h => absurd hk (Nat.not_lt.2 h))

end Go.Proofs.Ytlpfilpijiglpaa
