/- Kept of our texts for this claim: SegFind -/
import Derived.Test.YtienlhnbmobinaaRows
import Derived.Test.YtienlhnbmobinaaRoomKAh
import Derived.Test.YtienlhnbmobinaaRoomKAe
import Derived.Test.YtienlhnbmobinaaRoomKAf
import Derived.Test.YtienlhnbmobinaaRoomKAa
import Derived.Test.YtienlhnbmobinaaRoomKAb
import Derived.Test.YtienlhnbmobinaaRoomKAd
import Derived.WalkKit
import Derived.WalkLawsBesides
import Derived.WalkSpells
import Derived.LoopTactic
import Derived.WalkMore
import Derived.LoopN
import Derived.Laws.BitsAllLaws
import Derived.Laws.IdiomStrings
import Derived.BigQuiet
import Derived.Deep.QuietTactic
import Derived.Deep.DeepCutAuto
import Derived.Deep.RegionHeld3
import Derived.Deep.DrawnRows
import Derived.Lib.Hide
import Derived.Outline
import Derived.Deep.DeepMust
import Derived.Handy
import Derived.Deep.CutBlock
import Derived.Deep.LoopGhost
section
/- chapter 22: where a transaction's row is (seg.find) -/
namespace Go.Proofs.Ytienlhnbmobinaa
open Go.RowKit
set_option linter.unusedVariables false
set_option linter.unusedSimpArgs false
def cmpC (a b : Nat) : Int := if a < b then -1 else if b < a then 1 else 0
theorem nan_any (a : Nat) (w : World) : Calls Try.prog 181 #[.int .u64 a] w fun e w' => e = .returned (.bool false) ∧ w = w' := by
  have h : ((a : Int) != (a : Int)) = false := by simp
  go_enter Try.func181, Try.ntmps181
  go_wp2_with fail
  go_ret
  exact ⟨rfl, rfl⟩
set_option maxHeartbeats 1000000 in
theorem compare_any (a b : Nat) (w : World) : Calls Try.prog 130 #[.int .u64 a, .int .u64 b] w fun e w' => e = .returned (.int .i64 (cmpC a b)) ∧ w = w' := by
  have N1 := Lib.hid fun W => nan_any a W
  have N2 := Lib.hid fun W => nan_any b W
  by_cases h1 : a < b
  · have hc : cmpC a b = -1 := if_pos h1
    rw [hc]
    clear hc
    go_enter Try.func130, Try.ntmps130
    go_wp2_with fail
    refine (N1.out _).mono ?_
    rintro e w1 ⟨rfl, rfl⟩
    go_wp2_with fail
    refine (N2.out _).mono ?_
    rintro e w1 ⟨rfl, rfl⟩
    go_wp2_with fail
    go_ret
    exact ⟨rfl, rfl⟩
  · by_cases h2 : b < a
    · have hc : cmpC a b = 1 := (if_neg h1).trans (if_pos h2)
      rw [hc]
      clear hc
      go_enter Try.func130, Try.ntmps130
      go_wp2_with fail
      refine (N1.out _).mono ?_
      rintro e w1 ⟨rfl, rfl⟩
      go_wp2_with fail
      refine (N2.out _).mono ?_
      rintro e w1 ⟨rfl, rfl⟩
      go_wp2_with fail
      go_ret
      exact ⟨rfl, rfl⟩
    · have hc : cmpC a b = 0 := (if_neg h1).trans (if_neg h2)
      rw [hc]
      clear hc
      go_enter Try.func130, Try.ntmps130
      go_wp2_with fail
      refine (N1.out _).mono ?_
      rintro e w1 ⟨rfl, rfl⟩
      go_wp2_with fail
      refine (N2.out _).mono ?_
      rintro e w1 ⟨rfl, rfl⟩
      go_wp2_with fail
      go_ret
      exact ⟨rfl, rfl⟩
theorem segCmp_any (s : Sg) (tx : Nat) (w : World) : Calls Try.prog 179 #[sgV s, .int .u64 tx] w fun e w' => e = .returned (.int .i64 (cmpC s.tx tx)) ∧ Below w.heap.size w w' := by
  have C := Lib.hid fun W => compare_any s.tx tx W
  have HB := Lib.hid (SgBox.new w s)
  have B0 := Lib.hid (alloc_below w (.cells #[.int .u64 s.tx, .int .u8 s.st, .int .u64 s.num, .int .u32 s.fp, .int .u32 s.lp, .int .u32 s.hp, .int .u16 s.hs] 83))
  generalize cmpC s.tx tx = c at *
  unfold sgV
  go_enter Try.func179, Try.ntmps179
  go_upto_region 1 with fail
  generalize w.alloc (.cells #[.int .u64 s.tx, .int .u8 s.st, .int .u64 s.num, .int .u32 s.fp, .int .u32 s.lp, .int .u32 s.hp, .int .u16 s.hs] 83) = w0 at *
  obtain ⟨pl, p0, p1, p2, p3, p4, p5, p6⟩ := HB.out.cells
  go_wp2_with fail
  refine (C.out _).mono ?_
  rintro e w1 ⟨rfl, rfl⟩
  go_wp2_with fail
  go_ret
  exact ⟨rfl, B0.out⟩
theorem cmpC_neg (a b : Nat) : cmpC a b < 0 ↔ a < b := by
  unfold cmpC
  split
  · simp; omega
  · split <;> simp <;> omega
theorem cmpC_zero (a b : Nat) : cmpC a b = 0 ↔ a = b := by
  unfold cmpC
  split
  · simp; omega
  · split <;> simp <;> omega
theorem seg_before {L : List Sg} (hp : L.Pairwise (fun a b => a.tx < b.tx)) {tx t m : Nat} (hm : m < L.length) (htm : t ≤ m) (ht : t < L.length) (h : L[m].tx < tx) : L[t].tx < tx := by
  rcases Nat.lt_or_ge t m with hlt | hge
  · have := List.pairwise_iff_getElem.1 hp t m ht hm hlt
    omega
  · obtain rfl : t = m := by omega
    exact h
theorem seg_behind {L : List Sg} (hp : L.Pairwise (fun a b => a.tx < b.tx)) {tx t m : Nat} (hm : m < L.length) (htm : m ≤ t) (ht : t < L.length) (h : tx ≤ L[m].tx) : tx ≤ L[t].tx := by
  rcases Nat.lt_or_ge m t with hlt | hge
  · have := List.pairwise_iff_getElem.1 hp m t hm ht hlt
    omega
  · obtain rfl : t = m := by omega
    exact h
set_option maxHeartbeats 4000000 in
set_option maxRecDepth 100000 in
theorem segSearch_any (L : List Sg) (tx : Nat) (v : Value) (w : World) (ht : SegsAt w v L) (hp : L.Pairwise (fun a b => a.tx < b.tx)) (hnb : L.length ≤ 1000000) :
    Calls Try.prog 178 #[v, .int .u64 tx, .func (.func 179) #[] #[]] w fun e w' => e = .returned (.tuple #[.int .i64 (segAt L tx : Nat), .bool (segIs L tx)]) ∧ Below w.heap.size w w' := by
  have HS := Lib.hid ht
  obtain ⟨A, cp, rfl, h2, h3, h5⟩ := ht
  unfold maxLen at h3
  have HP := Lib.hid hp
  obtain ⟨n, hn⟩ : ∃ n, n = L.length := ⟨_, rfl⟩
  rw [← hn] at h2 hnb
  simp only [← hn]
  rw [← hn] at HS
  have HN := Lib.hid hn
  have CC := Lib.hid fun s W => segCmp_any s tx W
  have HF : Hid (∀ m, m ≤ L.length → (∀ i (h : i < L.length), i < m → L[i].tx < tx) → (∀ i (h : i < L.length), m ≤ i → tx ≤ L[i].tx) → segAt L tx = m) := fun m h a b => segAt_split h a b
  have HI1 : Hid (∀ h : segAt L tx < L.length, segIs L tx = decide (cmpC L[segAt L tx].tx tx = 0)) := fun h => by
    show segIs L tx = _
    rw [segIs_eq h]
    exact decide_eq_decide.2 (cmpC_zero _ _).symm
  have HI2 : Hid (¬ segAt L tx < L.length → segIs L tx = false) := fun h => segIs_end h
  clear h5 hp hn
  generalize segAt L tx = F at *
  generalize segIs L tx = I at *
  go_enter Try.func178, Try.ntmps178
  go_wp2_with fail
  go_loopg [9, 10] n (fun kx s9 s10 wr => ∃ lo hi : Nat, s9 = .int .i64 lo ∧ s10 = .int .i64 hi ∧ lo ≤ hi ∧ hi ≤ n ∧ hi - lo ≤ kx ∧ Hid (Below w.heap.size w wr) ∧ Hid ((∀ i (h : i < L.length), i < lo → L[i].tx < tx) ∧ (∀ i (h : i < L.length), hi ≤ i → tx ≤ L[i].tx)))
  case atStart => exact ⟨0, n, rfl, rfl, Nat.zero_le _, Nat.le_refl _, by omega, Lib.hid (Below.refl _ _), Lib.hid ⟨fun t h ht => absurd ht (Nat.not_lt_zero _), fun t h ht => by have := HN.out; omega⟩⟩
  case round =>
    obtain ⟨lo, hi, rfl, rfl, hlh, hin, hg, BB, I1⟩ := hrel
    by_cases hlt : lo < hi
    · obtain ⟨m, hm0⟩ : ∃ m, m = (lo + hi) / 2 := ⟨_, rfl⟩
      have hm : m < L.length := by rw [← HN.out]; omega
      obtain ⟨A2, cp2, hv2, _, _, h52⟩ := HS.out.below BB.out
      obtain ⟨b0, o0, hA2, hb0, hcell⟩ := h52 (by omega)
      have hAA : A = some ⟨b0, o0, none⟩ := by injection hv2 with e1; exact e1.trans hA2
      subst hAA
      clear hv2 hA2
      have I2 : Hid (L[m].tx < tx → ((∀ i (h : i < L.length), i < m + 1 → L[i].tx < tx) ∧ (∀ i (h : i < L.length), hi ≤ i → tx ≤ L[i].tx))) := fun h => ⟨fun i h1 h2 => seg_before HP.out hm (by omega) h1 h, I1.out.2⟩
      have I3 : Hid (¬ L[m].tx < tx → ((∀ i (h : i < L.length), i < lo → L[i].tx < tx) ∧ (∀ i (h : i < L.length), m ≤ i → tx ≤ L[i].tx))) := fun h => ⟨I1.out.1, fun i h1 h2 => seg_behind HP.out hm h2 h1 (by omega)⟩
      have C := Lib.hid (CC.out L[m])
      have k0 := hcell m hm 0 _ rfl
      have k1 := hcell m hm 1 _ rfl
      have k2 := hcell m hm 2 _ rfl
      have k3 := hcell m hm 3 _ rfl
      have k4 := hcell m hm 4 _ rfl
      have k5 := hcell m hm 5 _ rfl
      have k6 := hcell m hm 6 _ rfl
      have hcn := cmpC_neg L[m].tx tx
      clear hcell
      generalize L[m] = y at *
      clear hm
      obtain ⟨y0, y1, y2, y3, y4, y5, y6⟩ := y
      unfold sgV at C
      simp only [Nat.add_zero] at C k0 k1 k2 k3 k4 k5 k6 hcn I2 I3
      generalize cmpC y0 tx = c at *
      subst hm0
      clear h52
      by_cases hyx : c < 0
      · have I4 := Lib.hid (I2.out (hcn.1 hyx))
        clear hcn I2 I3
        go_wp2_with fail
        refine (C.out _).mono ?_
        rintro e w2 ⟨rfl, hb⟩
        have B2 := Lib.hid (BB.out.trans (hb.mono BB.out.size))
        clear k0 k1 k2 k3 k4 k5 k6 hb
        go_wp2_with fail
        go_roundg (hi - ((lo + hi) / 2 + 1))
        case measure => omega
        case rel => exact ⟨(lo + hi) / 2 + 1, hi, by rw [show ((lo : Int) + (hi : Int)) / 2 + 1 = (((lo + hi) / 2 + 1 : Nat) : Int) by omega], rfl, by omega, hin, Nat.le_refl _, B2, I4⟩
      · have I4 := Lib.hid (I3.out (fun h => hyx (hcn.2 h)))
        clear hcn I2 I3
        go_wp2_with fail
        refine (C.out _).mono ?_
        rintro e w2 ⟨rfl, hb⟩
        have B2 := Lib.hid (BB.out.trans (hb.mono BB.out.size))
        clear k0 k1 k2 k3 k4 k5 k6 hb
        go_wp2_with fail
        go_roundg ((lo + hi) / 2 - lo)
        case measure => omega
        case rel => exact ⟨lo, (lo + hi) / 2, rfl, by rw [show ((lo : Int) + (hi : Int)) / 2 = (((lo + hi) / 2 : Nat) : Int) by omega], by omega, by omega, Nat.le_refl _, B2, I4⟩
    · obtain rfl : hi = lo := by omega
      obtain rfl : F = hi := HF.out hi (by rw [← HN.out]; omega) (fun t h => I1.out.1 t h) (fun t h ht => I1.out.2 t h ht)
      by_cases hn : F < n
      · have hm : F < L.length := by rw [← HN.out]; omega
        obtain ⟨A2, cp2, hv2, _, _, h52⟩ := HS.out.below BB.out
        obtain ⟨b0, o0, hA2, hb0, hcell⟩ := h52 (by omega)
        have hAA : A = some ⟨b0, o0, none⟩ := by injection hv2 with e1; exact e1.trans hA2
        subst hAA
        clear hv2 hA2 h52
        have HI := Lib.hid (HI1.out hm)
        have C := Lib.hid (CC.out L[F])
        have k0 := hcell F hm 0 _ rfl
        have k1 := hcell F hm 1 _ rfl
        have k2 := hcell F hm 2 _ rfl
        have k3 := hcell F hm 3 _ rfl
        have k4 := hcell F hm 4 _ rfl
        have k5 := hcell F hm 5 _ rfl
        have k6 := hcell F hm 6 _ rfl
        clear hcell
        generalize L[F] = y at *
        clear hm
        obtain ⟨y0, y1, y2, y3, y4, y5, y6⟩ := y
        unfold sgV at C
        simp only [Nat.add_zero] at C k0 k1 k2 k3 k4 k5 k6 HI
        generalize cmpC y0 tx = c at *
        go_wp2_with fail
        refine (C.out _).mono ?_
        rintro e w2 ⟨rfl, hb⟩
        have B2 := Lib.hid (BB.out.trans (hb.mono BB.out.size))
        clear k0 k1 k2 k3 k4 k5 k6 hb
        go_wp2_with fail
        go_ret2
        exact ⟨by rw [HI.out]; rfl, B2.out⟩
      · have HI := Lib.hid (HI2.out (by rw [← HN.out]; omega))
        go_wp2_with fail
        go_ret2
        exact ⟨by rw [HI.out]; rfl, BB.out⟩
set_option maxHeartbeats 4000000 in
set_option maxRecDepth 100000 in
theorem segfind_any (p : Pg) (sv : Value) (tx : Nat) (w : World) (hp : p.wf) (ht : TextsAt w sv p.rows) (hb : weightB p.rows ≤ 1000000) :
    Calls Try.prog 124 #[pgV p sv, .int .u64 tx] w fun e w' => ∃ v, e = .returned (.tuple #[v, .int .i64 ((match segsB p with | none => 0 | some L => segAt L tx : Nat) : Nat), .bool (match segsB p with | none => false | some L => segIs L tx), .int .i64 (if (segsB p).isSome then 0 else 60)]) ∧ OwnSegs w' w.heap.size v ((segsB p).getD []) ∧ Below w.heap.size w w' := by
  have CR := Lib.hid fun W (h : TextsAt W sv p.rows) => segRows_any p sv W hp h hb
  have HT := Lib.hid ht
  have hlen : ∀ L, segsB p = some L → L.length ≤ 1000000 ∧ L.Pairwise (fun a b => a.tx < b.tx) := fun L h => by
    unfold segsB at h
    split at h
    · have h2 := segGo_all h
      have := weightB_length p.rows
      exact ⟨by omega, h2.2.2.1⟩
    · cases h
  have HL := Lib.hid hlen
  obtain ⟨n, hn⟩ : ∃ n, n = p.rows.length := ⟨_, rfl⟩
  obtain ⟨A, cp, hsv, _, _, _, _⟩ := ht
  rw [← hn] at hsv
  subst hsv
  generalize segsB p = R at *
  clear hlen hn hp hb
  unfold pgV at *
  obtain ⟨kind, level, id, lsn, next, rows⟩ := p
  simp only at *
  have X0 := Lib.hid (PgBox.new w kind level id lsn next (.slice A n cp))
  have B0 := Lib.hid (alloc_below w (.cells #[.int .u8 kind, .int .u8 level, .int .u32 id, .int .u64 lsn, .int .u32 next, .slice A n cp] 26))
  go_enter Try.func124, Try.ntmps124
  go_upto_region 1 with fail
  generalize w.alloc (.cells #[.int .u8 kind, .int .u8 level, .int .u32 id, .int .u64 lsn, .int .u32 next, .slice A n cp] 26) = w0 at *
  have T0 := Lib.hid (HT.out.below B0.out)
  obtain ⟨p0, p1, p2, p3, p4, p5, p6⟩ := X0.out.cells
  go_wp2_with fail
  refine (CR.out _ T0.out).mono ?_
  rintro e w1 ⟨v, rfl, hO, hb⟩
  have B1 := Lib.hid (below_then B0.out hb)
  have O1 := Lib.hid (OwnSegs.mono hO B0.out.size)
  clear hb hO p0 p1 p2 p3 p4 p5 p6 CR T0 X0 HT
  cases R with
  | none =>
    simp only [Option.isSome_none, Option.getD_none] at *
    (try simp only [Bool.false_eq_true, if_false] at *)
    have hv : v = .slice none 0 0 ∨ True := .inr trivial
    clear hv
    go_wp2_with fail
    refine bodyPost_ret (v := .tuple #[.slice none 0 0, .int .i64 0, .bool false, .int .i64 60]) (by simp [results, Try.results124, go_sem]) rfl ⟨_, rfl, OwnSegs.nil _ _, B1.out⟩
  | some L =>
    simp only [Option.isSome_some, Option.getD_some, if_true] at *
    obtain ⟨hl, hp⟩ := HL.out L rfl
    have CS := Lib.hid fun W (h : SegsAt W v L) => segSearch_any L tx v W h hp hl
    clear hl hp HL
    go_wp2_with fail
    refine (CS.out _ O1.out.at_).mono ?_
    rintro e w2 ⟨rfl, hb⟩
    have B2 := Lib.hid (below_then B1.out hb)
    have O2 := Lib.hid (O1.out.below hb)
    clear hb
    go_wp2_with fail
    refine bodyPost_ret (v := .tuple #[v, .int .i64 (segAt L tx : Nat), .bool (segIs L tx), .int .i64 0]) (by simp [results, Try.results124, go_sem]) rfl ⟨_, rfl, O2.out, B2.out⟩
end Go.Proofs.Ytienlhnbmobinaa
end
