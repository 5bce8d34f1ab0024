/- Kept of our texts for this claim: SegRef -/
import Derived.Test.YtienlhnbmobinaaRows
import Derived.Test.YtienlhnbmobinaaTkAj
import Derived.Test.YtienlhnbmobinaaTkAk
import Derived.Test.YtienlhnbmobinaaTkAo
import Derived.Test.YtienlhnbmobinaaTkAt
import Derived.Test.YtienlhnbmobinaaTkAf
import Derived.Test.YtienlhnbmobinaaTkAg
import Derived.Test.YtienlhnbmobinaaTkAh
import Derived.Test.YtienlhnbmobinaaTkAa
import Derived.Test.YtienlhnbmobinaaTkAc
import Derived.Test.YtienlhnbmobinaaTkAb
import Derived.Test.YtienlhnbmobinaaTkAe
import Derived.WalkKit
import Derived.WalkLawsBesides
import Derived.WalkSpells
import Derived.LoopTactic
import Derived.WalkMore
import Derived.LoopN
import Derived.Laws.BitsAllLaws
import Derived.Laws.IdiomStrings
import Derived.BigQuiet
import Derived.Deep.QuietTactic
import Derived.Deep.DeepCutAuto
import Derived.Deep.RegionHeld3
import Derived.Deep.DrawnRows
import Derived.Lib.Hide
import Derived.Outline
import Derived.Deep.DeepMust
import Derived.Handy
import Derived.Test.YtienlhnbmobinaaTkAi
import Derived.Deep.CutBlock
section
/- chapter 22: the reference's at, Find, Drop, Put -/
namespace Go.Proofs.Ytienlhnbmobinaa
open Go.RowKit
set_option linter.unusedVariables false
set_option linter.unusedSimpArgs false
theorem segAt_first {L : List Sg} {tx k : Nat} (hk : k ≤ L.length) (h1 : ∀ i (h : i < L.length), i < k → L[i].tx < tx) (h2 : ∀ h : k < L.length, tx ≤ L[k].tx) : segAt L tx = k := by
  apply Nat.le_antisymm
  · apply Nat.le_of_not_lt
    intro hlt
    have hkl : k < L.length := Nat.lt_of_lt_of_le hlt (segAt_le L tx)
    have a := segAt_ahead hlt hkl
    have b := h2 hkl
    omega
  · apply Nat.le_of_not_lt
    intro hlt
    have hl : segAt L tx < L.length := by omega
    have a := segAt_here hl
    have b := h1 _ hl hlt
    omega
theorem SegsAt.txs {w : World} {A : Option Addr} {n cp : Nat} {L : List Sg} (h : SegsAt w (.slice A n cp) L) (hn : n = L.length) (h0 : 0 < n) : ∃ b o, A = some ⟨b, o, none⟩ ∧ b < w.heap.size ∧ ∀ j (h : j < L.length), w.cell? ⟨b, o + j * 7, none⟩ = some (.int .u64 L[j].tx) := by
  obtain ⟨A2, cp2, hv2, _, _, h52⟩ := h
  obtain ⟨b0, o0, hA2, hb0, hcell⟩ := h52 (by omega)
  refine ⟨b0, o0, by injection hv2 with e1; exact e1.trans hA2, hb0, fun j hj => ?_⟩
  have := hcell j hj 0 _ rfl
  rwa [Nat.add_zero] at this
set_option maxHeartbeats 4000000 in
set_option maxRecDepth 100000 in
theorem refAt_any (L : List Sg) (tx : Nat) (v : Value) (w : World) (ht : SegsAt w v L) (hnb : L.length ≤ 1000000) :
    Calls Try.prog 125 #[v, .int .u64 tx] w fun e w' => e = .returned (.tuple #[.int .i64 (segAt L tx : Nat), .bool (segIs L tx)]) ∧ Below w.heap.size w w' := by
  obtain ⟨n, hn⟩ : ∃ n, n = L.length := ⟨_, rfl⟩
  obtain ⟨A, cp, hv, h2, h3, h5⟩ := ht
  rw [← hn] at hv
  have HS0 : SegsAt w (.slice A n cp) L := ⟨A, cp, by rw [hn], h2, h3, h5⟩
  subst hv
  have HS := Lib.hid HS0
  have HN := Lib.hid hn
  rw [← hn] at h2 hnb
  unfold maxLen at h3
  have HF : Hid (∀ m, m ≤ L.length → (∀ i (h : i < L.length), i < m → L[i].tx < tx) → (∀ h : m < L.length, tx ≤ L[m].tx) → segAt L tx = m) := fun m h a b => segAt_first h a b
  have HI1 : Hid (∀ h : segAt L tx < L.length, segIs L tx = decide (L[segAt L tx].tx = tx)) := fun h => segIs_eq h
  have HI2 : Hid (¬ segAt L tx < L.length → segIs L tx = false) := fun h => segIs_end h
  clear h5 hn HS0
  generalize segAt L tx = F at *
  generalize segIs L tx = I at *
  go_enter Try.func125, Try.ntmps125
  go_wp2_with fail
  go_loopw [6] (fun s6 wr => ∃ k : Nat, s6 = .int .i64 k ∧ k ≤ n ∧ wr = w ∧ Hid (∀ i (h : i < L.length), i < k → L[i].tx < tx)) (fun v _ => n - (intOf v).toNat)
  case atStart => exact ⟨0, rfl, Nat.zero_le _, rfl, Lib.hid (fun i h hi => absurd hi (Nat.not_lt_zero _))⟩
  case round =>
    obtain ⟨k, rfl, hk, rfl, HK⟩ := hrel
    by_cases hkn : k < n
    · obtain ⟨b0, o0, rfl, hb0, hcell⟩ := HS.out.txs HN.out (by omega)
      have hkl : k < L.length := by rw [← HN.out]; exact hkn
      have c0 := hcell k hkl
      have hki : (k : Int) < (n : Int) := by omega
      have hk0 : (0 : Int) ≤ (k : Int) := by omega
      have HFk := Lib.hid (HF.out k (by omega) HK.out)
      have HK2 : Hid (L[k].tx < tx → ∀ i (h : i < L.length), i < k + 1 → L[i].tx < tx) := fun h i hi hlt => by
        rcases Nat.lt_or_ge i k with h1 | h1
        · exact HK.out i hi h1
        · obtain rfl : i = k := by omega
          exact h
      have HIk : Hid (F = k → I = decide (L[k].tx = tx)) := fun e => by subst e; exact HI1.out hkl
      have HFk2 : Hid (tx ≤ L[k].tx → F = k) := fun h => HFk.out (fun _ => h)
      clear hcell HFk HF HI1 HI2 HK
      generalize L[k].tx = y at *
      clear hkl
      by_cases hy : y < tx
      · have HK3 := Lib.hid (HK2.out hy)
        clear HFk2 HIk HK2
        go_wp2_with fail
        exact ⟨⟨k + 1, by go_num, by omega, by first | rfl | trivial, HK3⟩, by simp [intOf]; omega⟩
      · have HFe := Lib.hid (HFk2.out (by omega))
        have HIe := Lib.hid (HIk.out HFe.out)
        clear HFk2 HIk HK2
        obtain ⟨b9, hb9⟩ : ∃ b, ((y : Int) == (tx : Int)) = b := ⟨_, rfl⟩
        have HI9 : Hid (I = b9) := by
          show I = b9
          rw [HIe.out, ← hb9, Bool.eq_iff_iff]
          simp
          omega
        have z0 := ext_cell c0 hb0
        go_wp2_with fail
        refine wp_region_ext wr.heap.size (by kernel_rfl) (by kernel_rfl) ?_
        repeat (go_big_quiet_step (fail))
        refine wpQuiet_nil ?_
        rintro _ ⟨X, rfl⟩
        have hX := Lib.hid X.below
        go_wp2_with fail
        go_ret2
        exact ⟨by rw [HFe.out, HI9.out]; rfl, hX.out⟩
    · obtain rfl : k = n := by omega
      have HFe := Lib.hid (HF.out k (by rw [← HN.out]; omega) HK.out (fun h => by have := HN.out; omega))
      have HIe := Lib.hid (HI2.out (by rw [HFe.out]; have := HN.out; omega))
      have hki : ¬ (k : Int) < (k : Int) := by omega
      clear HF HI1 HI2 HK
      go_wp2_with fail
      refine wp_region_ext wr.heap.size (by kernel_rfl) (by kernel_rfl) ?_
      repeat (go_big_quiet_step (fail))
      refine wpQuiet_nil ?_
      rintro _ ⟨X, rfl⟩
      have hX := Lib.hid X.below
      go_wp2_with fail
      go_ret2
      exact ⟨by rw [HFe.out, HIe.out]; rfl, hX.out⟩
theorem step_store_op {ops : Array Oper} {o : Oper} {a : Act} {w : World} {K : Act → World → Prop} {Q : Exit → Act → World → Prop} {E : Prop} (hgd : o.guard = none) (x y : Operand) (ho : o.op = .store 28 x y)
    {g : Nat} {od : Od} {sv : Value} (h : OAt w g od sv) (d : Od) (b : Option Addr) (n c : Nat)
    (hx : a.eval x = .pointer (some ⟨g, 0, none⟩)) (hy : a.eval y = .agg #[.int .u8 d.kind, .int .u32 d.page, .int .i64 d.at_, .int .i64 d.off, .string ⟨d.text.toArray⟩, .slice b n c, .int .u8 d.pk, .int .u8 d.lv, .int .u32 d.nx])
    (hk : ∀ W, OAt W g d (.slice b n c) → OthersKept w W (fun x => x = g) → K (a.put o.dst undef) W) :
    if Region.wanted o (yielded ops a.tmps) = true then Oper.wp Try.prog o a w K Q else E := by
  rw [if_pos (by simp [Region.wanted, hgd])]
  exact wp_store_row 28 x y ho g _ hx hy 28 _ h (by kernel_rfl) rfl (by simp [Value.oneCell']) (hk _ (setRow_op h d (.slice b n c)) (setRow_kept _ _ _))
theorem seg_len_of {p : Pg} {L : List Sg} (hb : p.rows.length ≤ 1000000) (h : segsB p = some L) : L.length ≤ 1000000 := by
  unfold segsB at h
  split at h
  · rw [(segGo_all h).1]; exact hb
  · cases h
set_option maxHeartbeats 4000000 in
set_option maxRecDepth 100000 in
theorem refSegFind_any (p : Pg) (sv : Value) (tx : Nat) (w : World) (hp : p.wf) (ht : TextsAt w sv p.rows) (hb : weightB p.rows ≤ 1000000) :
    Calls Try.prog 68 #[pgV p sv, .int .u64 tx] w fun e w' => e = .returned (.tuple #[sgV (sFindB p tx).1, .bool (sFindB p tx).2]) ∧ Below w.heap.size w w' := by
  have CR := Lib.hid fun W (h : TextsAt W sv p.rows) => refSegRows_any p sv W hp h hb
  have hdef : sFindB p tx = (match segsB p with | none => (Sg.zero, false) | some L => if segIs L tx then (L.getD (segAt L tx) Sg.zero, true) else (Sg.zero, false)) := rfl
  have HT := Lib.hid ht
  have hnb : p.rows.length ≤ 1000000 := by have := weightB_length p.rows; omega
  obtain ⟨n, hn⟩ : ∃ n, n = p.rows.length := ⟨_, rfl⟩
  obtain ⟨A, cp, hsv, _, _, _, _⟩ := ht
  rw [← hn] at hsv
  subst hsv
  have HLN := Lib.hid (fun L (h : segsB p = some L) => seg_len_of hnb h)
  generalize segsB p = R at *
  generalize sFindB p tx = res at *
  clear hp hb hn hnb
  unfold pgV at *
  obtain ⟨kind, level, id, lsn, next, rows⟩ := p
  simp only at *
  have P0 : Hid (PgBox (w.alloc (.cells #[.int .u8 kind, .int .u8 level, .int .u32 id, .int .u64 lsn, .int .u32 next, .slice A n cp] 26)) w.heap.size kind level id lsn next (.slice A n cp)) := PgBox.new w kind level id lsn next (.slice A n cp)
  have B0 := Lib.hid (alloc_below w (.cells #[.int .u8 kind, .int .u8 level, .int .u32 id, .int .u64 lsn, .int .u32 next, .slice A n cp] 26))
  have hz1 : ((w.alloc (.cells #[.int .u8 kind, .int .u8 level, .int .u32 id, .int .u64 lsn, .int .u32 next, .slice A n cp] 26))).heap.size = w.heap.size + 1 := by simp
  have Z0 : Hid (SgBox ((w.alloc (.cells #[.int .u8 kind, .int .u8 level, .int .u32 id, .int .u64 lsn, .int .u32 next, .slice A n cp] 26)).alloc (.cells #[.int .u64 0, .int .u8 0, .int .u64 0, .int .u32 0, .int .u32 0, .int .u32 0, .int .u16 0] 83)) (w.heap.size + 1) Sg.zero) := by
    have h := heap_alloc_new (w.alloc (.cells #[.int .u8 kind, .int .u8 level, .int .u32 id, .int .u64 lsn, .int .u32 next, .slice A n cp] 26)) (.cells #[.int .u64 0, .int .u8 0, .int .u64 0, .int .u32 0, .int .u32 0, .int .u32 0, .int .u16 0] 83)
    rw [hz1] at h
    exact h
  have B0 := Lib.hid (B0.out.alloc B0.out.size (.cells #[.int .u64 0, .int .u8 0, .int .u64 0, .int .u32 0, .int .u32 0, .int .u32 0, .int .u16 0] 83))
  have P0 := Lib.hid (P0.out.keep (.cells #[.int .u64 0, .int .u8 0, .int .u64 0, .int .u32 0, .int .u32 0, .int .u32 0, .int .u16 0] 83))
  clear hz1
  go_enter Try.func68, Try.ntmps68
  go_upto_region 1 with fail
  generalize ((w.alloc (.cells #[.int .u8 kind, .int .u8 level, .int .u32 id, .int .u64 lsn, .int .u32 next, .slice A n cp] 26)).alloc (.cells #[.int .u64 0, .int .u8 0, .int .u64 0, .int .u32 0, .int .u32 0, .int .u32 0, .int .u16 0] 83)) = w0 at *
  have T0 := Lib.hid (HT.out.below B0.out)
  clear HT
  obtain ⟨p0, p1, p2, p3, p4, p5, p6⟩ := P0.out.cells
  go_wp2_with fail
  refine (CR.out _ T0.out).mono ?_
  rintro e w1 ⟨v, rfl, hO, hb⟩
  have V1 := Lib.hid (OwnSegs.mono hO B0.out.size)
  clear hO CR
  clear p0 p1 p2 p3 p4 p5 p6
  have B1 := Lib.hid (below_then B0.out hb)
  have P1 := Lib.hid (P0.out.below hb)
  have Z1 := Lib.hid (Z0.out.below hb)
  have T1 := Lib.hid (T0.out.below hb)
  clear hb B0 P0 Z0 T0
  cases R with
  | none =>
    simp only [Option.isSome_none, Option.getD_none] at *
    (try simp only [Bool.false_eq_true, if_false] at *)
    have HD := Lib.hid hdef
    have CA := Lib.hid fun W (h : SegsAt W v []) => refAt_any [] tx v W h (by simp)
    obtain ⟨ia, hia⟩ : ∃ z : Nat, z = segAt [] tx := ⟨_, rfl⟩
    obtain ⟨ib, hib⟩ : ∃ z : Bool, z = segIs [] tx := ⟨_, rfl⟩
    rw [← hia, ← hib] at CA
    clear hdef hia hib
    go_wp2_with fail
    refine (CA.out _ V1.out.at_).mono ?_
    rintro e w2 ⟨rfl, hb⟩
    have B2 := Lib.hid (below_then B1.out hb)
    have P2 := Lib.hid (P1.out.below hb)
    have Z2 := Lib.hid (Z1.out.below hb)
    have T2 := Lib.hid (T1.out.below hb)
    clear hb B1 P1 Z1 T1
    go_wp2_with (refine wpList_store_sg rfl (.tmp 4) (.tmp 27) rfl Z2.out Sg.zero (by rfl) (by rfl) ?_; intro wS hP hK; have PF := Lib.hid hP; have KF := Lib.hid hK; clear hP hK)
    refine bodyPost_ret (results_sg rfl _ _ rfl PF.out) rfl ⟨?_, OthersKept.below B2.out KF.out (fun k hk e => by omega)⟩
    exact congrArg Ending.returned (by rw [HD.out]; rfl)
  | some L =>
    simp only [Option.isSome_some, Option.getD_some, if_true] at *
    have CA := Lib.hid fun W (h : SegsAt W v L) => refAt_any L tx v W h (HLN.out L rfl)
    obtain ⟨ia, hia⟩ : ∃ z : Nat, z = segAt L tx := ⟨_, rfl⟩
    obtain ⟨ib, hib⟩ : ∃ z : Bool, z = segIs L tx := ⟨_, rfl⟩
    have hil : Hid (ib = true → ia < L.length) := fun h => by rw [hia]; exact segIs_lt (by rw [← hib]; exact h)
    rw [← hia, ← hib] at hdef CA
    have HD := Lib.hid hdef
    clear hdef hia hib HLN
    go_wp2_with fail
    refine (CA.out _ V1.out.at_).mono ?_
    rintro e w2 ⟨rfl, hb⟩
    have V2 := Lib.hid (V1.out.below hb)
    clear V1 CA
    have B2 := Lib.hid (below_then B1.out hb)
    have P2 := Lib.hid (P1.out.below hb)
    have Z2 := Lib.hid (Z1.out.below hb)
    have T2 := Lib.hid (T1.out.below hb)
    clear hb B1 P1 Z1 T1
    cases ib with
    | false =>
      go_wp2_with (refine wpList_store_sg rfl (.tmp 4) (.tmp 27) rfl Z2.out Sg.zero (by rfl) (by rfl) ?_; intro wS hP hK; have PF := Lib.hid hP; have KF := Lib.hid hK; clear hP hK)
      refine bodyPost_ret (results_sg rfl _ _ rfl PF.out) rfl ⟨?_, OthersKept.below B2.out KF.out (fun k hk e => by omega)⟩
      exact congrArg Ending.returned (by rw [HD.out]; rfl)
    | true =>
      have hlt := hil.out rfl
      obtain ⟨A2, cp2, rfl, _, _, h52⟩ := V2.out.at_
      obtain ⟨b0, o0, rfl, hb0, hcell⟩ := h52 (by omega)
      have k0 := hcell ia hlt 0 _ rfl
      have k1 := hcell ia hlt 1 _ rfl
      have k2 := hcell ia hlt 2 _ rfl
      have k3 := hcell ia hlt 3 _ rfl
      have k4 := hcell ia hlt 4 _ rfl
      have k5 := hcell ia hlt 5 _ rfl
      have k6 := hcell ia hlt 6 _ rfl
      have hg : L.getD ia Sg.zero = L[ia] := by rw [List.getD_eq_getElem?_getD, List.getElem?_eq_getElem hlt]; rfl
      rw [hg] at HD
      have hli : (ia : Int) < (L.length : Int) := by omega
      have hl0 : (0 : Int) ≤ (ia : Int) := by omega
      obtain ⟨ln, hln⟩ : ∃ z, z = L.length := ⟨_, rfl⟩
      rw [← hln] at hli ⊢
      clear hcell h52 hg V2 hil hln
      generalize L[ia] = y at *
      obtain ⟨y0, y1, y2, y3, y4, y5, y6⟩ := y
      simp only [Nat.add_zero] at k0 k1 k2 k3 k4 k5 k6
      go_wp2_with (refine wpList_store_sg rfl (.tmp 4) (.tmp 31) rfl Z2.out ⟨y0, y1, y2, y3, y4, y5, y6⟩ (by rfl) (by rfl) ?_; intro wS hP hK; have PF := Lib.hid hP; have KF := Lib.hid hK; clear hP hK)
      refine bodyPost_ret (results_sg rfl _ _ rfl PF.out) rfl ⟨?_, OthersKept.below B2.out KF.out (fun k hk e => by omega)⟩
      exact congrArg Ending.returned (by rw [HD.out]; rfl)
set_option maxHeartbeats 4000000 in
set_option maxRecDepth 100000 in
theorem refSegDrop_any (p : Pg) (sv : Value) (tx : Nat) (w : World) (hp : p.wf) (ht : TextsAt w sv p.rows) (hb : weightB p.rows ≤ 1000000) :
    Calls Try.prog 73 #[pgV p sv, .int .u64 tx] w fun e w' => e = .returned (.tuple #[odV (sDropB p tx).1 (.slice none 0 0), .int .i64 (sDropB p tx).2]) ∧ Below w.heap.size w w' := by
  have CR := Lib.hid fun W (h : TextsAt W sv p.rows) => refSegRows_any p sv W hp h hb
  have hdef : sDropB p tx = (match segsB p with | none => (Od.zero, 60) | some L => if segIs L tx then (⟨4, p.id, (segAt L tx : Nat), 0, [], [], 0, 0, 0⟩, 0) else (Od.zero, 3)) := rfl
  have HT := Lib.hid ht
  have hnb : p.rows.length ≤ 1000000 := by have := weightB_length p.rows; omega
  obtain ⟨n, hn⟩ : ∃ n, n = p.rows.length := ⟨_, rfl⟩
  obtain ⟨A, cp, hsv, _, _, _, _⟩ := ht
  rw [← hn] at hsv
  subst hsv
  have HLN := Lib.hid (fun L (h : segsB p = some L) => seg_len_of hnb h)
  generalize segsB p = R at *
  generalize sDropB p tx = res at *
  clear hp hb hn hnb
  unfold pgV at *
  obtain ⟨kind, level, id, lsn, next, rows⟩ := p
  simp only at *
  have P0 : Hid (PgBox (w.alloc (.cells #[.int .u8 kind, .int .u8 level, .int .u32 id, .int .u64 lsn, .int .u32 next, .slice A n cp] 26)) w.heap.size kind level id lsn next (.slice A n cp)) := PgBox.new w kind level id lsn next (.slice A n cp)
  have B0 := Lib.hid (alloc_below w (.cells #[.int .u8 kind, .int .u8 level, .int .u32 id, .int .u64 lsn, .int .u32 next, .slice A n cp] 26))
  have hz1 : ((w.alloc (.cells #[.int .u8 kind, .int .u8 level, .int .u32 id, .int .u64 lsn, .int .u32 next, .slice A n cp] 26))).heap.size = w.heap.size + 1 := by simp
  have O0 : Hid (OAt ((w.alloc (.cells #[.int .u8 kind, .int .u8 level, .int .u32 id, .int .u64 lsn, .int .u32 next, .slice A n cp] 26)).alloc (.cells #[.int .u8 0, .int .u32 0, .int .i64 0, .int .i64 0, .string ⟨#[]⟩, .slice none 0 0, .int .u8 0, .int .u8 0, .int .u32 0] 28)) (w.heap.size + 1) Od.zero (.slice none 0 0)) := by
    have h := heap_alloc_new (w.alloc (.cells #[.int .u8 kind, .int .u8 level, .int .u32 id, .int .u64 lsn, .int .u32 next, .slice A n cp] 26)) (.cells #[.int .u8 0, .int .u32 0, .int .i64 0, .int .i64 0, .string ⟨#[]⟩, .slice none 0 0, .int .u8 0, .int .u8 0, .int .u32 0] 28)
    rw [hz1] at h
    exact h
  have B0 := Lib.hid (B0.out.alloc B0.out.size (.cells #[.int .u8 0, .int .u32 0, .int .i64 0, .int .i64 0, .string ⟨#[]⟩, .slice none 0 0, .int .u8 0, .int .u8 0, .int .u32 0] 28))
  have P0 := Lib.hid (P0.out.keep (.cells #[.int .u8 0, .int .u32 0, .int .i64 0, .int .i64 0, .string ⟨#[]⟩, .slice none 0 0, .int .u8 0, .int .u8 0, .int .u32 0] 28))
  clear hz1
  go_enter Try.func73, Try.ntmps73
  go_upto_region 1 with fail
  generalize ((w.alloc (.cells #[.int .u8 kind, .int .u8 level, .int .u32 id, .int .u64 lsn, .int .u32 next, .slice A n cp] 26)).alloc (.cells #[.int .u8 0, .int .u32 0, .int .i64 0, .int .i64 0, .string ⟨#[]⟩, .slice none 0 0, .int .u8 0, .int .u8 0, .int .u32 0] 28)) = w0 at *
  have T0 := Lib.hid (HT.out.below B0.out)
  clear HT
  obtain ⟨p0, p1, p2, p3, p4, p5, p6⟩ := P0.out.cells
  go_wp2_with fail
  refine (CR.out _ T0.out).mono ?_
  rintro e w1 ⟨v, rfl, hO, hb⟩
  have V1 := Lib.hid (OwnSegs.mono hO B0.out.size)
  clear hO CR
  clear p0 p1 p2 p3 p4 p5 p6
  have B1 := Lib.hid (below_then B0.out hb)
  have P1 := Lib.hid (P0.out.below hb)
  have O1 := Lib.hid (O0.out.under hb)
  have T1 := Lib.hid (T0.out.below hb)
  clear hb B0 P0 O0 T0
  cases R with
  | none =>
    simp only [Option.isSome_none] at *
    (try simp only [Bool.false_eq_true, if_false] at *)
    have HD := Lib.hid hdef
    clear hdef V1 HLN
    go_wp2_with (refine wpList_store_op rfl (.tmp 4) (.tmp 17) rfl O1.out Od.zero none 0 0 (by rfl) (by rfl) ?_; intro wS hO hK; have OS := Lib.hid hO; have KS := Lib.hid hK; clear hO hK)
    refine bodyPost_ret (results_op2 (p := 4) (u := 5) (o := Od.zero) (sv := .slice none 0 0) (by kernel_rfl) _ _ rfl OS.out) rfl ?_
    exact ⟨by rw [HD.out]; rfl, OthersKept.below B1.out KS.out (fun k hk e => by omega)⟩
  | some L =>
    simp only [Option.isSome_some, Option.getD_some, if_true] at *
    have CA := Lib.hid fun W (h : SegsAt W v L) => refAt_any L tx v W h (HLN.out L rfl)
    generalize segAt L tx = ia at *
    generalize segIs L tx = ib at *
    have HD := Lib.hid hdef
    clear hdef HLN
    go_wp2_with fail
    refine (CA.out _ V1.out.at_).mono ?_
    rintro e w2 ⟨rfl, hb⟩
    clear V1 CA
    have B2 := Lib.hid (below_then B1.out hb)
    have P2 := Lib.hid (P1.out.below hb)
    have O2 := Lib.hid (O1.out.under hb)
    have T2 := Lib.hid (T1.out.below hb)
    clear hb B1 P1 O1 T1
    cases ib with
    | false =>
      go_wp2_with (refine wpList_store_op rfl (.tmp 4) (.tmp 27) rfl O2.out Od.zero none 0 0 (by rfl) (by rfl) ?_; intro wS hO hK; have OS := Lib.hid hO; have KS := Lib.hid hK; clear hO hK)
      refine bodyPost_ret (results_op2 (p := 4) (u := 5) (o := Od.zero) (sv := .slice none 0 0) (by kernel_rfl) _ _ rfl OS.out) rfl ?_
      exact ⟨by rw [HD.out]; rfl, OthersKept.below B2.out KS.out (fun k hk e => by omega)⟩
    | true =>
      obtain ⟨p0, p1, p2, p3, p4, p5, p6⟩ := P2.out.cells
      go_wp2_with (refine wpList_store_op rfl (.tmp 4) (.tmp 31) rfl O2.out ⟨4, id, (ia : Nat), 0, [], [], 0, 0, 0⟩ none 0 0 (by rfl) (by rfl) ?_; intro wS hO hK; have OS := Lib.hid hO; have KS := Lib.hid hK; clear hO hK)
      refine bodyPost_ret (results_op2 (p := 4) (u := 5) (o := ⟨4, id, (ia : Nat), 0, [], [], 0, 0, 0⟩) (sv := .slice none 0 0) (by kernel_rfl) _ _ rfl OS.out) rfl ?_
      exact ⟨by rw [HD.out]; rfl, OthersKept.below B2.out KS.out (fun k hk e => by omega)⟩
set_option maxHeartbeats 4000000 in
set_option maxRecDepth 100000 in
theorem refSegPut_any (p : Pg) (sv : Value) (s : Sg) (w : World) (hp : p.wf) (ht : TextsAt w sv p.rows) (hb : weightB p.rows ≤ 1000000) (hs : s.wf) :
    Calls Try.prog 71 #[pgV p sv, sgV s] w fun e w' => e = .returned (.tuple #[odV (sPutB p s).1 (.slice none 0 0), .int .i64 (sPutB p s).2]) ∧ Below w.heap.size w w' := by
  have CR := Lib.hid fun W (h : TextsAt W sv p.rows) => refSegRows_any p sv W hp h hb
  have CE := Lib.hid fun W => refSegEncode_any s W hs
  have CM := Lib.hid fun W => refSegMay_any s W
  have CQ := Lib.hid fun W (h : TextsAt W sv p.rows) => refRoom06_any p sv W h hb
  rw [roomV_eq] at CQ
  have hdef : sPutB p s = (match segsB p with | none => (Od.zero, 60) | some L => if s.may then (if segIs L s.tx then (⟨3, p.id, (segAt L s.tx : Nat), 0, s.enc, [], 0, 0, 0⟩, 0) else if roomB p.rows < 31 then (Od.zero, 4) else (⟨2, p.id, (segAt L s.tx : Nat), 0, s.enc, [], 0, 0, 0⟩, 0)) else (Od.zero, 2)) := rfl
  have hout : s.out = if s.may then (s.enc, 0) else ([], 2) := rfl
  have HT := Lib.hid ht
  have hnb : p.rows.length ≤ 1000000 := by have := weightB_length p.rows; omega
  obtain ⟨n, hn⟩ : ∃ n, n = p.rows.length := ⟨_, rfl⟩
  obtain ⟨A, cp, hsv, _, _, _, _⟩ := ht
  rw [← hn] at hsv
  subst hsv
  have HLN := Lib.hid (fun L (h : segsB p = some L) => seg_len_of hnb h)
  generalize segsB p = R at *
  generalize sPutB p s = res at *
  generalize roomB p.rows = rm at *
  generalize s.out = so at *
  generalize s.enc = en at *
  generalize s.may = sm at *
  clear hp hb hn hnb hs
  unfold pgV at *
  unfold sgV at *
  obtain ⟨kind, level, id, lsn, next, rows⟩ := p
  obtain ⟨t0, t1, t2, t3, t4, t5, t6⟩ := s
  simp only at *
  have HD := Lib.hid hdef
  clear hdef
  have P0 : Hid (PgBox (w.alloc (.cells #[.int .u8 kind, .int .u8 level, .int .u32 id, .int .u64 lsn, .int .u32 next, .slice A n cp] 26)) w.heap.size kind level id lsn next (.slice A n cp)) := PgBox.new w kind level id lsn next (.slice A n cp)
  have B0 := Lib.hid (alloc_below w (.cells #[.int .u8 kind, .int .u8 level, .int .u32 id, .int .u64 lsn, .int .u32 next, .slice A n cp] 26))
  have hz1 : ((w.alloc (.cells #[.int .u8 kind, .int .u8 level, .int .u32 id, .int .u64 lsn, .int .u32 next, .slice A n cp] 26))).heap.size = w.heap.size + 1 := by simp
  have S0 : Hid (SgBox ((w.alloc (.cells #[.int .u8 kind, .int .u8 level, .int .u32 id, .int .u64 lsn, .int .u32 next, .slice A n cp] 26)).alloc (.cells #[.int .u64 t0, .int .u8 t1, .int .u64 t2, .int .u32 t3, .int .u32 t4, .int .u32 t5, .int .u16 t6] 83)) (w.heap.size + 1) ⟨t0, t1, t2, t3, t4, t5, t6⟩) := by
    have h := heap_alloc_new (w.alloc (.cells #[.int .u8 kind, .int .u8 level, .int .u32 id, .int .u64 lsn, .int .u32 next, .slice A n cp] 26)) (.cells #[.int .u64 t0, .int .u8 t1, .int .u64 t2, .int .u32 t3, .int .u32 t4, .int .u32 t5, .int .u16 t6] 83)
    rw [hz1] at h
    exact h
  have B0 := Lib.hid (B0.out.alloc B0.out.size (.cells #[.int .u64 t0, .int .u8 t1, .int .u64 t2, .int .u32 t3, .int .u32 t4, .int .u32 t5, .int .u16 t6] 83))
  have P0 := Lib.hid (P0.out.keep (.cells #[.int .u64 t0, .int .u8 t1, .int .u64 t2, .int .u32 t3, .int .u32 t4, .int .u32 t5, .int .u16 t6] 83))
  have hz2 : (((w.alloc (.cells #[.int .u8 kind, .int .u8 level, .int .u32 id, .int .u64 lsn, .int .u32 next, .slice A n cp] 26)).alloc (.cells #[.int .u64 t0, .int .u8 t1, .int .u64 t2, .int .u32 t3, .int .u32 t4, .int .u32 t5, .int .u16 t6] 83))).heap.size = w.heap.size + 1 + 1 := by simp
  have O0 : Hid (OAt (((w.alloc (.cells #[.int .u8 kind, .int .u8 level, .int .u32 id, .int .u64 lsn, .int .u32 next, .slice A n cp] 26)).alloc (.cells #[.int .u64 t0, .int .u8 t1, .int .u64 t2, .int .u32 t3, .int .u32 t4, .int .u32 t5, .int .u16 t6] 83)).alloc (.cells #[.int .u8 0, .int .u32 0, .int .i64 0, .int .i64 0, .string ⟨#[]⟩, .slice none 0 0, .int .u8 0, .int .u8 0, .int .u32 0] 28)) (w.heap.size + 1 + 1) Od.zero (.slice none 0 0)) := by
    have h := heap_alloc_new ((w.alloc (.cells #[.int .u8 kind, .int .u8 level, .int .u32 id, .int .u64 lsn, .int .u32 next, .slice A n cp] 26)).alloc (.cells #[.int .u64 t0, .int .u8 t1, .int .u64 t2, .int .u32 t3, .int .u32 t4, .int .u32 t5, .int .u16 t6] 83)) (.cells #[.int .u8 0, .int .u32 0, .int .i64 0, .int .i64 0, .string ⟨#[]⟩, .slice none 0 0, .int .u8 0, .int .u8 0, .int .u32 0] 28)
    rw [hz2] at h
    exact h
  have B0 := Lib.hid (B0.out.alloc B0.out.size (.cells #[.int .u8 0, .int .u32 0, .int .i64 0, .int .i64 0, .string ⟨#[]⟩, .slice none 0 0, .int .u8 0, .int .u8 0, .int .u32 0] 28))
  have P0 := Lib.hid (P0.out.keep (.cells #[.int .u8 0, .int .u32 0, .int .i64 0, .int .i64 0, .string ⟨#[]⟩, .slice none 0 0, .int .u8 0, .int .u8 0, .int .u32 0] 28))
  have S0 := Lib.hid (S0.out.keep (.cells #[.int .u8 0, .int .u32 0, .int .i64 0, .int .i64 0, .string ⟨#[]⟩, .slice none 0 0, .int .u8 0, .int .u8 0, .int .u32 0] 28))
  clear hz1 hz2
  go_enter Try.func71, Try.ntmps71
  go_upto_region 1 with fail
  generalize (((w.alloc (.cells #[.int .u8 kind, .int .u8 level, .int .u32 id, .int .u64 lsn, .int .u32 next, .slice A n cp] 26)).alloc (.cells #[.int .u64 t0, .int .u8 t1, .int .u64 t2, .int .u32 t3, .int .u32 t4, .int .u32 t5, .int .u16 t6] 83)).alloc (.cells #[.int .u8 0, .int .u32 0, .int .i64 0, .int .i64 0, .string ⟨#[]⟩, .slice none 0 0, .int .u8 0, .int .u8 0, .int .u32 0] 28)) = w0 at *
  have T0 := Lib.hid (HT.out.below B0.out)
  clear HT
  obtain ⟨p0, p1, p2, p3, p4, p5, p6⟩ := P0.out.cells
  go_wp2_with fail
  refine (CR.out _ T0.out).mono ?_
  rintro e w1 ⟨v, rfl, hO, hb⟩
  have V1 := Lib.hid (OwnSegs.mono hO B0.out.size)
  clear hO CR
  clear p0 p1 p2 p3 p4 p5 p6
  have B1 := Lib.hid (below_then B0.out hb)
  have P1 := Lib.hid (P0.out.below hb)
  have S1 := Lib.hid (S0.out.below hb)
  have O1 := Lib.hid (O0.out.under hb)
  have T1 := Lib.hid (T0.out.below hb)
  clear hb B0 P0 S0 O0 T0
  cases R with
  | none =>
    simp only [Option.isSome_none] at *
    (try simp only [Bool.false_eq_true, if_false] at *)
    go_wp2_with (refine wpList_store_op rfl (.tmp 4) (.tmp 17) rfl O1.out Od.zero none 0 0 (by rfl) (by rfl) ?_; intro wS hO hK; have OS := Lib.hid hO; have KS := Lib.hid hK; clear hO hK)
    refine bodyPost_ret (results_op2 (p := 4) (u := 5) (o := Od.zero) (sv := .slice none 0 0) (by kernel_rfl) _ _ rfl OS.out) rfl ?_
    exact ⟨by rw [HD.out]; rfl, OthersKept.below B1.out KS.out (fun k hk e => by omega)⟩
  | some L =>
    simp only [Option.isSome_some, Option.getD_some, if_true] at *
    have CA := Lib.hid fun W (h : SegsAt W v L) => refAt_any L t0 v W h (HLN.out L rfl)
    generalize segAt L t0 = ia at *
    generalize segIs L t0 = ib at *
    clear HLN
    obtain ⟨sl, s0, s1, s2, s3, s4, s5, s6⟩ := S1.out.cells
    simp only at s0 s1 s2 s3 s4 s5 s6
    go_wp2_with fail
    refine (CM.out _).mono ?_
    rintro e w2 ⟨rfl, hb⟩
    have V2 := Lib.hid (V1.out.below hb)
    clear V1
    clear sl s0 s1 s2 s3 s4 s5 s6
    have B2 := Lib.hid (below_then B1.out hb)
    have P2 := Lib.hid (P1.out.below hb)
    have S2 := Lib.hid (S1.out.below hb)
    have O2 := Lib.hid (O1.out.under hb)
    have T2 := Lib.hid (T1.out.below hb)
    clear hb B1 P1 S1 O1 T1
    clear CM
    cases sm with
    | false =>
      go_wp2_with (refine wpList_store_op rfl (.tmp 4) (.tmp 22) rfl O2.out Od.zero none 0 0 (by rfl) (by rfl) ?_; intro wS hO hK; have OS := Lib.hid hO; have KS := Lib.hid hK; clear hO hK)
      refine bodyPost_ret (results_op2 (p := 4) (u := 5) (o := Od.zero) (sv := .slice none 0 0) (by kernel_rfl) _ _ rfl OS.out) rfl ?_
      exact ⟨by rw [HD.out]; rfl, OthersKept.below B2.out KS.out (fun k hk e => by omega)⟩
    | true =>
      simp only [if_true] at hout
      subst hout
      obtain ⟨sl, s0, s1, s2, s3, s4, s5, s6⟩ := S2.out.cells
      simp only at s0 s1 s2 s3 s4 s5 s6
      go_wp2_with fail
      refine (CA.out _ V2.out.at_).mono ?_
      rintro e w3 ⟨rfl, hb⟩
      clear V2 CA
      clear sl s0 s1 s2 s3 s4 s5 s6
      have B3 := Lib.hid (below_then B2.out hb)
      have P3 := Lib.hid (P2.out.below hb)
      have S3 := Lib.hid (S2.out.below hb)
      have O3 := Lib.hid (O2.out.under hb)
      have T3 := Lib.hid (T2.out.below hb)
      clear hb B2 P2 S2 O2 T2
      cases ib with
      | true =>
        have HD2 : Hid (res = (⟨3, id, (ia : Nat), 0, en, [], 0, 0, 0⟩, 0)) := by show _ = _; rw [HD.out, if_pos trivial, if_pos rfl]
        go_upto_region 8 with fail
        have HPD : Hid (PgBox w3.drew w.heap.size kind level id lsn next (.slice A n cp)) := P3.out
        have HSD : Hid (SgBox w3.drew (w.heap.size + 1) ⟨t0, t1, t2, t3, t4, t5, t6⟩) := S3.out
        have HOD : Hid (OAt w3.drew _ Od.zero (.slice none 0 0)) := O3.out
        have HBD := Lib.hid B3.out.drew
        refine wp_region_held_drew (S := fun W => PgBox W w.heap.size kind level id lsn next (.slice A n cp) ∧ SgBox W (w.heap.size + 1) ⟨t0, t1, t2, t3, t4, t5, t6⟩) (by kernel_rfl) (⟨HPD.out, HSD.out⟩) (fun hHeld => ?_)
        clear P3 S3 O3 B3
        generalize w3.drew = v0 at *
        have O3 := HOD
        have B3 := HBD
        refine wpAnyH_take (i := 0) (oi := { dst := some 31, op := Go.Op.fieldAddr 26 (Go.Operand.tmp 2) 2, type := 0, pos := "ref.go:95", after := #[], guard := none }) (v := ?_) rfl (by kernel_rfl) (by kernel_rfl) (by kernel_rfl) (fun _ _ _ h => h) (Or.inl ⟨by rfl, ?_⟩) hHeld ?_
        rotate_left
        · (intro w hSw; obtain ⟨p0, p1, p2, p3, p4, p5, p6⟩ := hSw.1.cells; obtain ⟨sl, s0, s1, s2, s3, s4, s5, s6⟩ := hSw.2.cells; simp only at s0 s1 s2 s3 s4 s5 s6; go_simp <;> with_reducible rfl)
        simp only [Act.put, List.setIfInBounds_toArray, List.set_cons_zero, List.set_cons_succ]
        refine wpAnyH_take (i := 1) (oi := { dst := some 32, op := Go.Op.load 22 (Go.Operand.tmp 31), type := 22, pos := "ref.go:95", after := #[{ on := 0, ground := Go.Ground.data }], guard := none }) (v := ?_) rfl (by kernel_rfl) (by kernel_rfl) (by kernel_rfl) (fun _ _ _ h => h) (Or.inl ⟨by rfl, ?_⟩) hHeld ?_
        rotate_left
        · (intro w hSw; obtain ⟨p0, p1, p2, p3, p4, p5, p6⟩ := hSw.1.cells; obtain ⟨sl, s0, s1, s2, s3, s4, s5, s6⟩ := hSw.2.cells; simp only at s0 s1 s2 s3 s4 s5 s6; go_simp <;> with_reducible rfl)
        simp only [Act.put, List.setIfInBounds_toArray, List.set_cons_zero, List.set_cons_succ]
        refine wpAnyH_take (i := 2) (oi := { dst := some 33, op := Go.Op.move (Go.Operand.tmp 8), type := 3, pos := "ref.go:95", after := #[], guard := none }) (v := ?_) rfl (by kernel_rfl) (by kernel_rfl) (by kernel_rfl) (fun _ _ _ h => h) (Or.inl ⟨by rfl, ?_⟩) hHeld ?_
        rotate_left
        · (intro w hSw; obtain ⟨p0, p1, p2, p3, p4, p5, p6⟩ := hSw.1.cells; obtain ⟨sl, s0, s1, s2, s3, s4, s5, s6⟩ := hSw.2.cells; simp only at s0 s1 s2 s3 s4 s5 s6; go_simp <;> with_reducible rfl)
        simp only [Act.put, List.setIfInBounds_toArray, List.set_cons_zero, List.set_cons_succ]
        refine wpAnyH_take (i := 3) (oi := { dst := some 34, op := Go.Op.load 83 (Go.Operand.tmp 3), type := 83, pos := "ref.go:95", after := #[], guard := none }) (v := ?_) rfl (by kernel_rfl) (by kernel_rfl) (by kernel_rfl) (fun _ _ _ h => h) (Or.inl ⟨by rfl, ?_⟩) hHeld ?_
        rotate_left
        · (intro w hSw; obtain ⟨p0, p1, p2, p3, p4, p5, p6⟩ := hSw.1.cells; obtain ⟨sl, s0, s1, s2, s3, s4, s5, s6⟩ := hSw.2.cells; simp only at s0 s1 s2 s3 s4 s5 s6; go_simp <;> with_reducible rfl)
        simp only [Act.put, List.setIfInBounds_toArray, List.set_cons_zero, List.set_cons_succ]
        refine wpAnyH_ready (rs := [4]) (by kernel_rfl) (by simp) (AllReadyH.cons (o := { dst := some 35, op := Go.Op.call { callee := Go.Callee.value (Go.Operand.func 59), args := #[Go.Operand.tmp 34], argTypes := #[83] }, type := 9, pos := "ref.go:95", after := #[{ on := 3, ground := Go.Ground.data }], guard := none }) rfl (fun K hK => ?_) AllReadyH.nil)
        · go_simp
          refine (CE.out _).mono ?_
          rintro e v1 ⟨rfl, hb⟩
          have BV1 := Lib.hid (below_then B3.out hb)
          have OV1 := Lib.hid (O3.out.under hb)
          have hSS := Lib.hid (And.intro (PgBox.below hHeld.1 hb) (SgBox.below hHeld.2 hb))
          clear hb
          refine hK.out _ _ ?_ (fun hHeld => ?_)
          · exact hSS.out
          clear hK K
          (try simp only [Act.put, List.setIfInBounds_toArray, List.set_cons_zero, List.set_cons_succ])
          refine wpAnyH_take (i := 5) (oi := { dst := some 36, op := Go.Op.build 28 #[(0, Go.Operand.const (Go.Value.int Go.IntKind.u8 3)), (1, Go.Operand.tmp 32), (2, Go.Operand.tmp 33), (4, Go.Operand.tmp 35)], type := 28, pos := "ref.go:95", after := #[{ on := 1, ground := Go.Ground.data }, { on := 2, ground := Go.Ground.data }, { on := 4, ground := Go.Ground.data }], guard := none }) (v := ?_) rfl (by kernel_rfl) (by kernel_rfl) (by kernel_rfl) (fun _ _ _ h => h) (Or.inl ⟨by rfl, ?_⟩) hHeld ?_
          rotate_left
          · (intro w hSw; obtain ⟨p0, p1, p2, p3, p4, p5, p6⟩ := hSw.1.cells; obtain ⟨sl, s0, s1, s2, s3, s4, s5, s6⟩ := hSw.2.cells; simp only at s0 s1 s2 s3 s4 s5 s6; go_simp <;> with_reducible rfl)
          simp only [Act.put, List.setIfInBounds_toArray, List.set_cons_zero, List.set_cons_succ]
          refine wpAnyH_ready (rs := [6]) (by kernel_rfl) (by simp) (AllReadyH.cons (o := { dst := none, op := Go.Op.store 28 (Go.Operand.tmp 4) (Go.Operand.tmp 36), type := 0, pos := "ref.go:95", after := #[{ on := 5, ground := Go.Ground.data }, { on := 4, ground := Go.Ground.chain }, { on := 0, ground := Go.Ground.phase }, { on := 1, ground := Go.Ground.phase }, { on := 2, ground := Go.Ground.phase }, { on := 3, ground := Go.Ground.phase }, { on := 4, ground := Go.Ground.phase }, { on := 5, ground := Go.Ground.phase }], guard := none }) rfl (fun K hK => ?_) AllReadyH.nil)
          · refine step_store_op rfl (.tmp 4) (.tmp 36) rfl OV1.out ⟨3, id, (ia : Nat), 0, en, [], 0, 0, 0⟩ none 0 0 (by rfl) (by rfl) ?_
            intro v2 hOq hKq
            have OS := Lib.hid hOq
            have KS := Lib.hid hKq
            have hS2 := Lib.hid (And.intro (PgBox.kept hHeld.1 hKq (by omega)) (SgBox.kept hHeld.2 hKq (by omega)))
            clear hOq hKq
            refine hK.out _ _ ?_ (fun hHeld => ?_)
            · exact hS2.out
            clear hK K
            (try simp only [Act.put, List.setIfInBounds_toArray, List.set_cons_zero, List.set_cons_succ])
            refine wpAnyH_take (i := 7) (oi := { dst := some 5, op := Go.Op.assign (Go.Operand.const (Go.Value.int Go.IntKind.i64 0)), type := 34, pos := "ref.go:95", after := #[{ on := 6, ground := Go.Ground.chain }, { on := 0, ground := Go.Ground.phase }, { on := 1, ground := Go.Ground.phase }, { on := 2, ground := Go.Ground.phase }, { on := 3, ground := Go.Ground.phase }, { on := 4, ground := Go.Ground.phase }, { on := 5, ground := Go.Ground.phase }, { on := 6, ground := Go.Ground.phase }], guard := none }) (v := ?_) rfl (by kernel_rfl) (by kernel_rfl) (by kernel_rfl) (fun _ _ _ h => h) (Or.inl ⟨by rfl, ?_⟩) hHeld ?_
            rotate_left
            · (intro w hSw; obtain ⟨p0, p1, p2, p3, p4, p5, p6⟩ := hSw.1.cells; obtain ⟨sl, s0, s1, s2, s3, s4, s5, s6⟩ := hSw.2.cells; simp only at s0 s1 s2 s3 s4 s5 s6; go_simp <;> with_reducible rfl)
            simp only [Act.put, List.setIfInBounds_toArray, List.set_cons_zero, List.set_cons_succ]
            refine wpAnyH_done (by kernel_rfl) ?_ _
            go_wp2_with fail
            refine bodyPost_ret (results_op2 (p := 4) (u := 5) (o := ⟨3, id, (ia : Nat), 0, en, [], 0, 0, 0⟩) (sv := .slice none 0 0) (by kernel_rfl) _ _ rfl OS.out) rfl ?_
            exact ⟨by rw [HD2.out]; rfl, OthersKept.below BV1.out KS.out (fun k hk e => by omega)⟩
      | false =>
        obtain ⟨p0, p1, p2, p3, p4, p5, p6⟩ := P3.out.cells
        go_wp2_with fail
        refine (CQ.out _ T3.out).mono ?_
        rintro e w4 ⟨rfl, hb⟩
        clear CQ
        clear p0 p1 p2 p3 p4 p5 p6
        have B4 := Lib.hid (below_then B3.out hb)
        have P4 := Lib.hid (P3.out.below hb)
        have S4 := Lib.hid (S3.out.below hb)
        have O4 := Lib.hid (O3.out.under hb)
        have T4 := Lib.hid (T3.out.below hb)
        clear hb B3 P3 S3 O3 T3
        by_cases hr : rm < 31
        · have HD2 : Hid (res = (Od.zero, 4)) := by show _ = _; rw [HD.out, if_pos trivial, if_neg (by simp), if_pos hr]
          have hrd : decide (rm < 31) = true := decide_eq_true hr
          go_wp2_with (refine wpList_store_op rfl (.tmp 4) (.tmp 40) rfl O4.out Od.zero none 0 0 (by rfl) (by rfl) ?_; intro wS hO hK; have OS := Lib.hid hO; have KS := Lib.hid hK; clear hO hK)
          refine bodyPost_ret (results_op2 (p := 4) (u := 5) (o := Od.zero) (sv := .slice none 0 0) (by kernel_rfl) _ _ rfl OS.out) rfl ?_
          exact ⟨by rw [HD2.out]; rfl, OthersKept.below B4.out KS.out (fun k hk e => by omega)⟩
        · have HD2 : Hid (res = (⟨2, id, (ia : Nat), 0, en, [], 0, 0, 0⟩, 0)) := by show _ = _; rw [HD.out, if_pos trivial, if_neg (by simp), if_neg hr]
          have hrd : decide (rm < 31) = false := decide_eq_false hr
          go_upto_region 11 with fail
          have HPD : Hid (PgBox w4.drew w.heap.size kind level id lsn next (.slice A n cp)) := P4.out
          have HSD : Hid (SgBox w4.drew (w.heap.size + 1) ⟨t0, t1, t2, t3, t4, t5, t6⟩) := S4.out
          have HOD : Hid (OAt w4.drew _ Od.zero (.slice none 0 0)) := O4.out
          have HBD := Lib.hid B4.out.drew
          refine wp_region_held_drew (S := fun W => PgBox W w.heap.size kind level id lsn next (.slice A n cp) ∧ SgBox W (w.heap.size + 1) ⟨t0, t1, t2, t3, t4, t5, t6⟩) (by kernel_rfl) (⟨HPD.out, HSD.out⟩) (fun hHeld => ?_)
          clear P4 S4 O4 B4
          generalize w4.drew = v0 at *
          have O4 := HOD
          have B4 := HBD
          refine wpAnyH_take (i := 0) (oi := { dst := some 41, op := Go.Op.fieldAddr 26 (Go.Operand.tmp 2) 2, type := 0, pos := "ref.go:100", after := #[], guard := none }) (v := ?_) rfl (by kernel_rfl) (by kernel_rfl) (by kernel_rfl) (fun _ _ _ h => h) (Or.inl ⟨by rfl, ?_⟩) hHeld ?_
          rotate_left
          · (intro w hSw; obtain ⟨p0, p1, p2, p3, p4, p5, p6⟩ := hSw.1.cells; obtain ⟨sl, s0, s1, s2, s3, s4, s5, s6⟩ := hSw.2.cells; simp only at s0 s1 s2 s3 s4 s5 s6; go_simp <;> with_reducible rfl)
          simp only [Act.put, List.setIfInBounds_toArray, List.set_cons_zero, List.set_cons_succ]
          refine wpAnyH_take (i := 1) (oi := { dst := some 42, op := Go.Op.load 22 (Go.Operand.tmp 41), type := 22, pos := "ref.go:100", after := #[{ on := 0, ground := Go.Ground.data }], guard := none }) (v := ?_) rfl (by kernel_rfl) (by kernel_rfl) (by kernel_rfl) (fun _ _ _ h => h) (Or.inl ⟨by rfl, ?_⟩) hHeld ?_
          rotate_left
          · (intro w hSw; obtain ⟨p0, p1, p2, p3, p4, p5, p6⟩ := hSw.1.cells; obtain ⟨sl, s0, s1, s2, s3, s4, s5, s6⟩ := hSw.2.cells; simp only at s0 s1 s2 s3 s4 s5 s6; go_simp <;> with_reducible rfl)
          simp only [Act.put, List.setIfInBounds_toArray, List.set_cons_zero, List.set_cons_succ]
          refine wpAnyH_take (i := 2) (oi := { dst := some 43, op := Go.Op.move (Go.Operand.tmp 8), type := 3, pos := "ref.go:100", after := #[], guard := none }) (v := ?_) rfl (by kernel_rfl) (by kernel_rfl) (by kernel_rfl) (fun _ _ _ h => h) (Or.inl ⟨by rfl, ?_⟩) hHeld ?_
          rotate_left
          · (intro w hSw; obtain ⟨p0, p1, p2, p3, p4, p5, p6⟩ := hSw.1.cells; obtain ⟨sl, s0, s1, s2, s3, s4, s5, s6⟩ := hSw.2.cells; simp only at s0 s1 s2 s3 s4 s5 s6; go_simp <;> with_reducible rfl)
          simp only [Act.put, List.setIfInBounds_toArray, List.set_cons_zero, List.set_cons_succ]
          refine wpAnyH_take (i := 3) (oi := { dst := some 44, op := Go.Op.load 83 (Go.Operand.tmp 3), type := 83, pos := "ref.go:100", after := #[], guard := none }) (v := ?_) rfl (by kernel_rfl) (by kernel_rfl) (by kernel_rfl) (fun _ _ _ h => h) (Or.inl ⟨by rfl, ?_⟩) hHeld ?_
          rotate_left
          · (intro w hSw; obtain ⟨p0, p1, p2, p3, p4, p5, p6⟩ := hSw.1.cells; obtain ⟨sl, s0, s1, s2, s3, s4, s5, s6⟩ := hSw.2.cells; simp only at s0 s1 s2 s3 s4 s5 s6; go_simp <;> with_reducible rfl)
          simp only [Act.put, List.setIfInBounds_toArray, List.set_cons_zero, List.set_cons_succ]
          refine wpAnyH_ready (rs := [4]) (by kernel_rfl) (by simp) (AllReadyH.cons (o := { dst := some 45, op := Go.Op.call { callee := Go.Callee.value (Go.Operand.func 59), args := #[Go.Operand.tmp 44], argTypes := #[83] }, type := 9, pos := "ref.go:100", after := #[{ on := 3, ground := Go.Ground.data }], guard := none }) rfl (fun K hK => ?_) AllReadyH.nil)
          · go_simp
            refine (CE.out _).mono ?_
            rintro e v1 ⟨rfl, hb⟩
            have BV1 := Lib.hid (below_then B4.out hb)
            have OV1 := Lib.hid (O4.out.under hb)
            have hSS := Lib.hid (And.intro (PgBox.below hHeld.1 hb) (SgBox.below hHeld.2 hb))
            clear hb
            refine hK.out _ _ ?_ (fun hHeld => ?_)
            · exact hSS.out
            clear hK K
            (try simp only [Act.put, List.setIfInBounds_toArray, List.set_cons_zero, List.set_cons_succ])
            refine wpAnyH_take (i := 5) (oi := { dst := some 46, op := Go.Op.build 28 #[(0, Go.Operand.const (Go.Value.int Go.IntKind.u8 2)), (1, Go.Operand.tmp 42), (2, Go.Operand.tmp 43), (4, Go.Operand.tmp 45)], type := 28, pos := "ref.go:100", after := #[{ on := 1, ground := Go.Ground.data }, { on := 2, ground := Go.Ground.data }, { on := 4, ground := Go.Ground.data }], guard := none }) (v := ?_) rfl (by kernel_rfl) (by kernel_rfl) (by kernel_rfl) (fun _ _ _ h => h) (Or.inl ⟨by rfl, ?_⟩) hHeld ?_
            rotate_left
            · (intro w hSw; obtain ⟨p0, p1, p2, p3, p4, p5, p6⟩ := hSw.1.cells; obtain ⟨sl, s0, s1, s2, s3, s4, s5, s6⟩ := hSw.2.cells; simp only at s0 s1 s2 s3 s4 s5 s6; go_simp <;> with_reducible rfl)
            simp only [Act.put, List.setIfInBounds_toArray, List.set_cons_zero, List.set_cons_succ]
            refine wpAnyH_ready (rs := [6]) (by kernel_rfl) (by simp) (AllReadyH.cons (o := { dst := none, op := Go.Op.store 28 (Go.Operand.tmp 4) (Go.Operand.tmp 46), type := 0, pos := "ref.go:100", after := #[{ on := 5, ground := Go.Ground.data }, { on := 4, ground := Go.Ground.chain }, { on := 0, ground := Go.Ground.phase }, { on := 1, ground := Go.Ground.phase }, { on := 2, ground := Go.Ground.phase }, { on := 3, ground := Go.Ground.phase }, { on := 4, ground := Go.Ground.phase }, { on := 5, ground := Go.Ground.phase }], guard := none }) rfl (fun K hK => ?_) AllReadyH.nil)
            · refine step_store_op rfl (.tmp 4) (.tmp 46) rfl OV1.out ⟨2, id, (ia : Nat), 0, en, [], 0, 0, 0⟩ none 0 0 (by rfl) (by rfl) ?_
              intro v2 hOq hKq
              have OS := Lib.hid hOq
              have KS := Lib.hid hKq
              have hS2 := Lib.hid (And.intro (PgBox.kept hHeld.1 hKq (by omega)) (SgBox.kept hHeld.2 hKq (by omega)))
              clear hOq hKq
              refine hK.out _ _ ?_ (fun hHeld => ?_)
              · exact hS2.out
              clear hK K
              (try simp only [Act.put, List.setIfInBounds_toArray, List.set_cons_zero, List.set_cons_succ])
              refine wpAnyH_take (i := 7) (oi := { dst := some 5, op := Go.Op.assign (Go.Operand.const (Go.Value.int Go.IntKind.i64 0)), type := 34, pos := "ref.go:100", after := #[{ on := 6, ground := Go.Ground.chain }, { on := 0, ground := Go.Ground.phase }, { on := 1, ground := Go.Ground.phase }, { on := 2, ground := Go.Ground.phase }, { on := 3, ground := Go.Ground.phase }, { on := 4, ground := Go.Ground.phase }, { on := 5, ground := Go.Ground.phase }, { on := 6, ground := Go.Ground.phase }], guard := none }) (v := ?_) rfl (by kernel_rfl) (by kernel_rfl) (by kernel_rfl) (fun _ _ _ h => h) (Or.inl ⟨by rfl, ?_⟩) hHeld ?_
              rotate_left
              · (intro w hSw; obtain ⟨p0, p1, p2, p3, p4, p5, p6⟩ := hSw.1.cells; obtain ⟨sl, s0, s1, s2, s3, s4, s5, s6⟩ := hSw.2.cells; simp only at s0 s1 s2 s3 s4 s5 s6; go_simp <;> with_reducible rfl)
              simp only [Act.put, List.setIfInBounds_toArray, List.set_cons_zero, List.set_cons_succ]
              refine wpAnyH_done (by kernel_rfl) ?_ _
              go_wp2_with fail
              refine bodyPost_ret (results_op2 (p := 4) (u := 5) (o := ⟨2, id, (ia : Nat), 0, en, [], 0, 0, 0⟩) (sv := .slice none 0 0) (by kernel_rfl) _ _ rfl OS.out) rfl ?_
              exact ⟨by rw [HD2.out]; rfl, OthersKept.below BV1.out KS.out (fun k hk e => by omega)⟩
end Go.Proofs.Ytienlhnbmobinaa
end
