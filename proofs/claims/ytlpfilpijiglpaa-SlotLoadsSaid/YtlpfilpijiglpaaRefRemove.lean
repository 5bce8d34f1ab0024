/- The document's area: Remove. -/
import Derived.Test.YtlpfilpijiglpaaRows
import Derived.Test.YtlpfilpijiglpaaRefDir
import Derived.Test.YtlpfilpijiglpaaSlotLaw
import Derived.Test.YtlpfilpijiglpaaAppAny
import Derived.WalkKit
import Derived.WalkLawsBesides
import Derived.WalkSpells
import Derived.LoopTactic
import Derived.WalkMore
import Derived.LoopN
import Derived.Laws.BitsAllLaws
import Derived.Laws.IdiomStrings
import Derived.BigQuiet
import Derived.Deep.QuietTactic
import Derived.Deep.DeepCutAuto
import Derived.Deep.RegionHeld3
import Derived.Deep.DrawnRows
import Derived.Lib.Hide
import Derived.Outline
import Derived.Deep.DeepMust
import Derived.Handy
namespace Go.Proofs.Ytlpfilpijiglpaa
open Go.RowKit
set_option linter.unusedVariables false
set_option linter.unusedSimpArgs false

theorem own_empty2 (w : World) (e : TypeId) : (w.alloc (.cells #[] e)).ownsRow w.heap.size e 2 (.slice (some ⟨w.heap.size, 0, none⟩) 0 0) 0 [] :=
  World.ownsRow_made w #[] 0 (Nat.le_refl _) (by unfold maxLen; omega) rfl
theorem RefAt.new_dir {w : World} {g gB cap base : Nat} {v v' : Value} {a : Ar} {L' : List (Nat × Nat)} (h : RefAt w g gB cap v a) (ho : w.ownsRow base 93 2 v' L'.length (places L')) (h1 : g < base) (h2 : gB < base) :
    RefAt (w.setCell ⟨g, 2, none⟩ v') g gB cap v' { a with L := L' } := by
  refine ⟨by simpa using blk_set h.own 2 v', h.row.of_eq (Below.heap_setCell w ⟨g, 2, none⟩ _ gB (by simp; exact Ne.symm h.ne)), ?_, h.ne, fun k hk => by have := (ho.lt k hk).1; omega, h.room⟩
  have ho0 : w.ownsRow 0 93 2 v' L'.length (places L') := ⟨ho.1, ho.2.imp id fun ⟨g, cap, cur, h1, h2, h3⟩ => ⟨g, cap, cur, h1, Nat.zero_le _, h3⟩⟩
  refine ho0.kept (row := some g) (grown_set (grown_refl _ _)) ?_
  cases hv : v'.ownBlock with
  | none => exact .inl rfl
  | some k => exact .inr (by have := (ho.lt k hv).1; simp; omega)
theorem zero_step (B : List UInt8) (k i : Nat) (hk : k + i < B.length) : (putAt B k (List.replicate i 0)).set (k + i) 0 = putAt B k (List.replicate (i + 1) 0) := by
  have := putAt_step (B := B) (k := k) (i := i) (t := List.replicate (i + 1) 0) (by simp) (by simp; omega)
  simpa using this

set_option maxHeartbeats 4000000 in
set_option maxRecDepth 100000 in
theorem refRemove_yes (g gB cap : Nat) (v : Value) (a : Ar) (k : Nat) (w : World) (ha : a.Fit) (hk : k < a.L.length) (h : RefAt w g gB cap v a) :
    Calls Try.prog 57 #[.pointer (some ⟨g, 0, none⟩), .int .i64 k] w fun e w' => e = .returned (.int .i64 0) ∧ ∃ v', RefAt w' g gB cap v' (a.cut k) ∧ OthersKept w w' (refOwn g gB v) ∧ ∀ k, v'.ownBlock = some k → w.heap.size ≤ k := by
  have hn := ha.n
  have E := Lib.hid fun W (hW : Below w.heap.size w W) => refEnd_any g gB cap v a W (by omega) (h.below hW)
  have hD := h.dir
  have c2 := h.c2
  obtain ⟨b, cp, rfl, hcp, hcm, hbb⟩ := dir_form h.dir
  obtain ⟨gd, rfl⟩ := hbb (by omega)
  have HD := Lib.hid hD
  have H := Lib.hid h
  clear h hD
  go_enter Try.func57, Try.ntmps57
  go_wp2_with fail
  refine (E.out _ (Below.refl _ _)).mono ?_
  rintro e w1 ⟨rfl, h1⟩
  have HA1 := Lib.hid (H.out.below h1)
  have HK1 := Lib.hid h1
  have c2' := HA1.out.c2
  clear h1
  have hgl := (HA1.out.dir.lt gd rfl).2
  have hg1 := blk_lt HA1.out.own
  obtain ⟨hfr1, hfr2⟩ := HA1.out.far gd rfl
  have v1 : IntKind.i64.wrap ((k : Int) + 1) = ((k + 1 : Nat) : Int) := by rw [show ((k + 1 : Nat) : Int) = (k : Int) + 1 by omega]; exact IntWalk.i64_in _ ⟨by omega, by omega⟩
  obtain ⟨r', hr'⟩ : ∃ x, x = k + 1 := ⟨_, rfl⟩
  rw [← hr'] at v1
  have HR' := Lib.hid hr'
  have q2 : (0 : Int) ≤ (k : Int) := by omega
  have q3 : (k : Int) ≤ (cp : Int) := by omega
  have q4 : (0 : Int) ≤ (r' : Int) := by omega
  have q5 : (r' : Int) ≤ (a.L.length : Int) := by omega
  have q6 : (r' : Int) ≤ (cp : Int) := by omega
  have HKk := Lib.hid hk
  obtain ⟨i0, hi0, hz0, hz1, hz2⟩ := info_parts (P := Try.prog) (e := 93) (z := .agg #[.int .i64 0, .int .i64 0]) (size := 2) (bytes := 16) (by kernel_rfl)
  clear hr'
  have B3 : Below w1.heap.size w1 (w1.alloc (.cells #[] 93)).drew := ((Below.refl w1.heap.size w1).alloc (Nat.le_refl _) (.cells #[] 93)).drew
  have HB3 := Lib.hid B3
  have c3 := (HA1.out.below B3).c2
  have hne3 : g ≠ w1.heap.size := by omega
  have hgs : gd ≠ w1.heap.size := by omega
  clear B3
  have HO2 := Lib.hid HA1.out.dir
  have HL : Hid ([] ++ List.take (k * 2) (places a.L) ++ List.drop (r' * 2) (places a.L) = places (a.L.eraseIdx k)) := by
    show _ = _
    rw [List.nil_append, places_take, places_drop, ← places_append, List.eraseIdx_eq_take_drop_succ, HR'.out]
  have HN : Hid (0 + k + (a.L.length - r') = (a.L.eraseIdx k).length) := by show _ = _; rw [List.length_eraseIdx_of_lt HKk.out, HR'.out]; have := HKk.out; omega
  have hg2 := HA1.out.row.lt
  go_upto_region 4 with fail
  go_cut [20] (fun s20 w' => ∃ v', RefAt w' g gB cap v' { a with L := a.L.eraseIdx k } ∧ OthersKept w w' (fun x => x = g) ∧ Hid (∀ k, v'.ownBlock = some k → w.heap.size ≤ k))
  case first =>
   go_region_law (first
          | (refine step_append_any _ rfl (.tmp 21) (.tmp 27) 86 rfl w1.heap.size 93 i0 (.agg #[.int .i64 0, .int .i64 0]) 2 16 Try.underlying86 hi0 hz0 hz1 hz2 rfl (by decide) (.slice (some ⟨w1.heap.size, 0, none⟩) 0 0) 0 [] (by rfl) (own_empty2 w1 _) (.slice (some ⟨gd, 0, none⟩) k cp) k ((places a.L).take (k * 2)) (by rfl) ((reads_take HO2.out k cp (by have := HKk.out; omega)).below HB3.out) (by rw [places_take]; exact places_one _) (by unfold maxLen; have := HKk.out; omega) (by have := HKk.out; omega) (by simp) ?_; intro v3 w3 ho3 hg3; have c4 := hg3.cell (a := ⟨g, 2, none⟩) c3 (by simp [Value.ownBlock]; exact hne3))
          | (refine step_append_any _ rfl (.tmp 28) (.tmp 35) 86 rfl w1.heap.size 93 i0 (.agg #[.int .i64 0, .int .i64 0]) 2 16 Try.underlying86 hi0 hz0 hz1 hz2 rfl (by decide) v3 (0 + k) ([] ++ (places a.L).take (k * 2)) (by rfl) ho3 (.slice (if cp = r' then some ⟨gd, 0, none⟩ else some ⟨gd, r' * 2, none⟩) (a.L.length - r') (cp - r')) (a.L.length - r') ((places a.L).drop (r' * 2)) (by rfl) (reads_drop ((own_below HO2.out HB3.out).kept hg3 (.inr (by simp [Value.ownBlock]; exact hgs))) r' (cp - r') (by omega) (by omega)) (by rw [places_drop]; exact places_one _) (by unfold maxLen; have := HKk.out; omega) (by have := HKk.out; omega) (Nat.le_trans (by simp) hg3.size) ?_; intro v4 w4 ho4 hg4; obtain ⟨b4, cp4, rfl, hn4, hm4, hb4⟩ := dir_form ho4; have HB4 := below_own (below_own HB3.out (own_empty2 w1 _) (Nat.le_refl _) hg3) ho3 (Nat.le_refl _) hg4; have HA4 := HA1.out.below HB4; have c5 := HA4.c2; have f5 := blk_frozen HA4.own 2))
   all_goals
     have hD4 : w4.ownsRow w1.heap.size 93 2 (.slice b4 (k + (a.L.length - r')) cp4) (a.L.eraseIdx k).length (places (a.L.eraseIdx k)) := by
       have := ho4
       rw [HL.out, HN.out] at this
       rw [show k + (a.L.length - r') = (a.L.eraseIdx k).length by rw [← HN.out]; omega]
       exact this
     have HR9 := Lib.hid (HA4.new_dir hD4 hg1 hg2)
     have HF9 : Hid (∀ x, (Value.slice b4 (k + (a.L.length - r')) cp4).ownBlock = some x → w.heap.size ≤ x) := by
       show ∀ x, _
       intro x hx
       exact Nat.le_trans HK1.out.size (hD4.lt x hx).1
     have HB9 := Lib.hid HB4
     clear ho3 hg3 hg4 ho4 hb4 HB4 HA4 hD4
     go_wp2_with fail
     all_goals go_meet
     all_goals exact ⟨_, HR9.out, (OthersKept.of_below (HK1.out.trans (HB9.out.mono HK1.out.size))).trans (OthersKept.of_grown (p := fun x => x = g) (grown_set (grown_refl _ g)) rfl) (fun _ _ h => h), HF9⟩
  case rest =>
    obtain ⟨v', hA, hK, HF⟩ := hcut
    have HA := Lib.hid hA
    have HK := Lib.hid hK
    have hfin : a.fin = 4 + 4 * a.L.length := rfl
    have hfl := ha.f
    have hll := ha.l
    have hhi := ha.hi
    obtain ⟨m, hm⟩ : ∃ m, m = a.fin - 4 := ⟨_, rfl⟩
    have wm : IntKind.i64.wrap ((a.fin : Int) - 4) = (m : Int) := by rw [show ((m : Nat) : Int) = (a.fin : Int) - 4 by omega]; exact IntWalk.i64_in _ ⟨by omega, by omega⟩
    have HC : Hid (a.cut k = { a with B := putAt a.B m (List.replicate 4 0), L := a.L.eraseIdx k }) := by
      show _ = _
      unfold Ar.cut putAt
      rw [hm, List.length_replicate, show a.fin - 4 + 4 = a.fin by omega]
    have hf4 : a.fin = m + 4 := by omega
    generalize a.fin = F at *
    subst hf4
    have hmB : m + 4 ≤ a.B.length := by omega
    clear hA hK hm hfin hfl hll HD H E HB3 HO2 HL HN c3 c2 c2' v1 q2 q3 q4 q5 q6
    go_wp2_with fail
    go_loopw [6] (fun s6 wr => ∃ j : Nat, j ≤ 4 ∧ s6 = .int .i64 ((m + j : Nat) : Int) ∧ RefAt wr g gB cap v' { a with B := putAt a.B m (List.replicate j 0), L := a.L.eraseIdx k } ∧ OthersKept w wr (fun x => x = g ∨ x = gB)) (fun i _ => (m + 4) - (intOf i).toNat)
    case atStart => exact ⟨0, by omega, rfl, by rw [List.replicate_zero, putAt_nil]; exact HA.out, (OthersKept.of_below (Below.refl _ _)).trans HK.out (fun _ _ h => .inl h)⟩
    case round =>
      obtain ⟨j, hj, rfl, hA, hK⟩ := hrel
      have HA2 := Lib.hid hA
      have HK2 := Lib.hid hK
      have hlen : (putAt a.B m (List.replicate j 0)).length = a.B.length := putAt_len (by simp; omega)
      by_cases hc : j < 4
      · have c0 := hA.c0
        simp only at c0
        rw [hlen] at c0
        have hrow : RowAt wr gB (putAt a.B m (List.replicate j 0)) := hA.row
        have hf := hrow.frozen (m + j) (by omega)
        have hcx := hrow.cell (m + j) (by omega)
        have HT := Lib.hid (zero_step a.B m j (by omega))
        have HS := Lib.hid (hA.set_byte (m + j) 0 (by simp only; omega))
        generalize (((putAt a.B m (List.replicate j 0))[m + j]'(by omega)).toNat : Int) = qq at hcx
        clear hA hK hrow
        have hki : m + j < a.B.length := by omega
        have hkf : m + j < m + 4 := by omega
        generalize hkk : m + j = kk at *
        have hqx : ((kk : Nat) : Int) < (a.B.length : Int) := by omega
        have hqz : ¬ ((kk : Nat) : Int) < 0 := by omega
        have hqf : ((kk : Nat) : Int) < ((m + 4 : Nat) : Int) := by omega
        go_wp2_with fail
        go_roundw
        case rel =>
          have hr2 := HS.out
          simp only at hr2
          rw [HT.out] at hr2
          refine ⟨j + 1, by omega, ?_, hr2, ?_⟩
          · rw [← Nat.add_assoc, hkk]; go_num
          · exact HK2.out.trans (OthersKept.of_grown (p := fun k => k = g ∨ k = gB) (g := gB) (grown_set (grown_refl _ gB)) (.inr rfl)) (fun _ _ h => h)
        case measure => simp [intOf]; omega
      · obtain rfl : j = 4 := by omega
        clear hA hK
        go_wp2_with fail
        go_ret
        exact ⟨rfl, v', by rw [HC.out]; exact HA2.out, (OthersKept.of_below (Below.refl _ _)).trans HK2.out (fun _ _ h => by rcases h with h | h <;> simp [refOwn, h]), HF.out⟩

end Go.Proofs.Ytlpfilpijiglpaa
