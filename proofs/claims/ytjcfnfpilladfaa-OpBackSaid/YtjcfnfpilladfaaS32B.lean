/- slices.Sort at uint32: breaking patterns, partitions. -/
import Derived.Test.YtjcfnfpilladfaaRows
import Derived.Test.YtjcfnfpilladfaaShelf
import Derived.Test.YtjcfnfpilladfaaS32A
import Derived.Test.YtjcfnfpilladfaaBase
import Derived.Deep.LoopGhost
import Derived.Deep.CutBlock
import Derived.Sort.LotA
import Derived.Sort.LotD3
import Derived.Sort.WalkA
import Derived.WalkKit
import Derived.WalkLawsBesides
import Derived.WalkSpells
import Derived.LoopTactic
import Derived.WalkMore
import Derived.LoopN
import Derived.Laws.BitsAllLaws
import Derived.Laws.IdiomStrings
import Derived.BigQuiet
import Derived.Deep.QuietTactic
import Derived.Deep.DeepCutAuto
import Derived.Deep.RegionHeld3
import Derived.Deep.DrawnRows
import Derived.Lib.Hide
import Derived.Outline
import Derived.Deep.DeepMust
import Derived.Handy
import Derived.Sort.LotC
namespace Go.Proofs.Ytjcfnfpilladfaa
open Go.RowKit
set_option linter.unusedVariables false
set_option linter.unusedSimpArgs false


theorem xor_in (x : Nat) (y : Int) (hx : x < 18446744073709551616) (hy : 0 ≤ y) (hy2 : y < 18446744073709551616) : ∃ z : Nat, z < 18446744073709551616 ∧ bits .xor .u64 (x : Int) y = (z : Int) := by
  obtain ⟨k, rfl⟩ : ∃ k : Nat, y = (k : Int) := ⟨y.toNat, by omega⟩
  exact ⟨x ^^^ k, Nat.xor_lt_two_pow (n := 64) hx (by omega), bits_xor_u64_nat _ _ hx (by omega)⟩
/-- A generator in a block of its own. -/
def GenAt (w : World) (s x : Nat) : Prop := w.heap[s]? = some (.cells #[.int .u64 (x : Nat)] 194 (0, 0))

set_option maxHeartbeats 4000000 in
set_option maxRecDepth 100000 in
/-- The next number is one. -/
theorem next_u64 (s x : Nat) (w : World) (hx : x < 18446744073709551616) (hw : GenAt w s x) :
    Calls Try.prog 160 #[.pointer (some ⟨s, 0, none⟩)] w fun e w' => ∃ y : Nat, y < 18446744073709551616 ∧ e = .returned (.int .u64 y) ∧ GenAt w' s y ∧ OthersKept w w' (fun k => k = s) := by
  obtain ⟨A, lA, e1⟩ := xor_in x (IntKind.u64.wrap ((x : Int) * 8192)) hx (by rw [IntKind.wrap_u64]; omega) (by rw [IntKind.wrap_u64]; omega)
  obtain ⟨B, lB, e2⟩ := xor_in A ((A : Int) / 128) lA (by omega) (by omega)
  obtain ⟨C, lC, e3⟩ := xor_in B (IntKind.u64.wrap ((B : Int) * 131072)) lB (by rw [IntKind.wrap_u64]; omega) (by rw [IntKind.wrap_u64]; omega)
  have K : ∀ (W : World) (v : Value), OthersKept W (W.setCell ⟨s, 0, none⟩ v).drew (fun k => k = s) := fun W v => (OthersKept.of_grown (p := fun k => k = s) (g := s) (grown_set (grown_refl _ _)) rfl).then_below (Below.refl _ _).drew
  have G : ∀ (W : World) (y z : Nat), GenAt W s y → GenAt (W.setCell ⟨s, 0, none⟩ (.int .u64 (z : Nat))).drew s z := fun W y z h => keep_drew (blk_set h 0 _)
  have HK := Lib.hid K
  have HG := Lib.hid G
  have HW := Lib.hid hw
  have x0 : w.cell? ⟨s, 0, none⟩ = some (.int .u64 (x : Nat)) := blk_cell hw 0
  have f0 : w.frozen? ⟨s, 0, none⟩ = false := blk_frozen hw 0
  clear K G hw
  go_enter Try.func160, Try.ntmps160
  go_upto_region 1 with fail
  go_region
  all_goals go_wp2_with fail
  have G1 := Lib.hid (HG.out w x A HW.out)
  have K1 := Lib.hid (HK.out w (.int .u64 (A : Nat)))
  generalize (w.setCell ⟨s, 0, none⟩ (.int .u64 (A : Nat))).drew = w1 at *
  have x1 : w1.cell? ⟨s, 0, none⟩ = some (.int .u64 (A : Nat)) := blk_cell G1.out 0
  have f1 : w1.frozen? ⟨s, 0, none⟩ = false := blk_frozen G1.out 0
  go_upto_region 2 with fail
  go_region
  all_goals go_wp2_with fail
  have G2 := Lib.hid (HG.out w1 A B G1.out)
  have K2 := Lib.hid (K1.out.trans (HK.out w1 (.int .u64 (B : Nat))) (fun _ _ h => h))
  generalize (w1.setCell ⟨s, 0, none⟩ (.int .u64 (B : Nat))).drew = w2 at *
  have x2 : w2.cell? ⟨s, 0, none⟩ = some (.int .u64 (B : Nat)) := blk_cell G2.out 0
  have f2 : w2.frozen? ⟨s, 0, none⟩ = false := blk_frozen G2.out 0
  go_upto_region 3 with fail
  go_region
  all_goals go_wp2_with fail
  have G3 := Lib.hid (HG.out w2 B C G2.out)
  have K3 := Lib.hid (K2.out.trans (HK.out w2 (.int .u64 (C : Nat))) (fun _ _ h => h))
  generalize (w2.setCell ⟨s, 0, none⟩ (.int .u64 (C : Nat))).drew = w3 at *
  have x3 : w3.cell? ⟨s, 0, none⟩ = some (.int .u64 (C : Nat)) := blk_cell G3.out 0
  have f3 : w3.frozen? ⟨s, 0, none⟩ = false := blk_frozen G3.out 0
  go_wp2_with fail
  go_ret
  exact ⟨C, lC, rfl, G3.out, K3.out⟩

/-- So many places of two. -/
theorem bitlen_two : ∀ l : Nat, 0 < l → l ≤ 1000000 → 2 ^ Lib.bitLen l ≤ 2 * l := by
  intro l
  induction l using Nat.strongRecOn with
  | _ x ih =>
    intro h0 hn
    by_cases h1 : x = 1
    · subst h1; decide
    · rw [Lib.bitLen_half x (by omega) (by omega), Nat.add_comm, Nat.pow_succ]
      have := ih (x / 2) (by omega) (by omega) (by omega)
      omega
theorem bitlen_half (l : Nat) (h0 : 0 < l) (hn : l ≤ 1000000) : ∃ M : Nat, 1 ≤ M ∧ M ≤ 2 * l ∧ IntKind.u64.wrap ((2 : Int) ^ min (Lib.bitLen l) 64) = (M : Int) := by
  have h := bitlen_two l h0 hn
  generalize Lib.bitLen l = L at *
  have hL : L ≤ 20 := by
    rcases Nat.lt_or_ge 20 L with hc | hc
    · have := Nat.pow_le_pow_right (show 0 < 2 by decide) (show 21 ≤ L by omega)
      have e2 : (2 : Nat) ^ 21 = 2097152 := by decide
      omega
    · exact hc
  rw [Nat.min_eq_left (by omega)]
  refine ⟨2 ^ L, Nat.one_le_two_pow, h, ?_⟩
  rw [IntKind.wrap_u64, show ((2 : Int) ^ L) = ((2 ^ L : Nat) : Int) by push_cast; rfl]
  generalize (2 : Nat) ^ L = p at *
  omega

theorem nextPower_u64 (l : Nat) (w : World) (h0 : 0 < l) (hn : l ≤ 1000000) :
    Calls Try.prog 159 #[.int .i64 l] w fun e w' => ∃ M : Nat, 1 ≤ M ∧ M ≤ 2 * l ∧ e = .returned (.int .u64 M) ∧ w' = w := by
  obtain ⟨M, h1, h2, h3⟩ := bitlen_half l h0 hn
  have hL : ∀ W, Calls Try.prog 122 #[.int .u64 (l : Int)] W fun e w' => e = .returned (.int .i64 (Lib.bitLen l : Nat)) ∧ w' = W := fun W => by
    have h := Try.bits_Len (l : Int) W (by omega) (by omega)
    rwa [Int.toNat_natCast] at h
  go_enter Try.func159, Try.ntmps159
  go_wp2_with (first | (go_at_call 122; refine (hL _).mono ?_; rintro e w' ⟨rfl, rfl⟩))
  go_ret
  exact ⟨M, h1, h2, rfl, rfl⟩



set_option maxHeartbeats 4000000 in
set_option maxRecDepth 100000 in
/-- Some places are swapped. -/
theorem break_u64 (base g n cp a b : Nat) (d : Array Nat) (w : World) (hn : n ≤ 1000000) (hab : a + 12 < b) (hb : b ≤ n) (h : RowU w base g n cp d) :
    Calls Try.prog 143 #[.slice (some ⟨g, 0, none⟩) n cp, .int .i64 a, .int .i64 b] w fun e w' => ∃ d', Go.Sort.PermIn a b d d' ∧ e = .returned (.tuple #[]) ∧ RowU w' base g n cp d' ∧ OthersKept w w' (fun k => k = g) := by
  obtain ⟨l, hl⟩ : ∃ x, x = b - a := ⟨_, rfl⟩
  obtain ⟨q, hq⟩ : ∃ x, x = l / 4 := ⟨_, rfl⟩
  obtain ⟨i0, hi0⟩ : ∃ x, x = a + 2 * q - 1 := ⟨_, rfl⟩
  have m3 : ((l : Nat) : Int).tdiv 4 = (q : Int) := by rw [Int.tdiv_eq_ediv_of_nonneg (by omega)]; omega
  have m4 : IntKind.i64.wrap ((q : Nat) : Int) = (q : Int) := IntWalk.i64_in _ ⟨by omega, by omega⟩
  have b1 : (b : Int) - (a : Int) = (l : Int) := by omega
  have hq3 : 3 ≤ q := by omega
  have hqn : q ≤ 1000000 := by omega
  have hl8 : (8 : Int) ≤ (l : Int) := by omega
  have hl0 : 0 < l := by omega
  have ei : (a : Int) + (q : Int) * 2 - 1 = (i0 : Int) := by omega
  have ei2 : (a : Int) + (q : Int) * 2 + 1 = (i0 : Int) + 2 := by omega
  have hi1 : a ≤ i0 := by omega
  have hi2 : i0 + 2 < b := by omega
  have hln : l ≤ 1000000 := by omega
  have halb : a + l = b := by omega
  have H := Lib.hid h
  have hgw := h.lt
  have NP := Lib.hid fun W => nextPower_u64 l W hl0 hln
  have NX := Lib.hid next_u64
  have hsg : w.heap.size ≠ g := by omega
  have HB0 : Hid (∀ v, Below w.heap.size w (w.alloc (.cells #[v] 194))) := fun v => (Below.refl w.heap.size w).alloc (Nat.le_refl _) _
  have HG0 : Hid (∀ x : Nat, GenAt (w.alloc (.cells #[.int .u64 (x : Nat)] 194)) w.heap.size x) := fun x => heap_alloc_new w _
  clear h hl hi0 hq
  go_enter Try.func143, Try.ntmps143
  go_wp2_with fail
  refine (NP.out _).mono ?_
  rintro e w1 ⟨M, hM1, hM2, rfl, rfl⟩
  go_wp2_with fail
  go_loopw [9] (fun s9 wr => ∃ (i x : Nat) (dk : Array Nat), s9 = .int .i64 i ∧ i0 ≤ i ∧ i ≤ i0 + 3 ∧ x < 18446744073709551616 ∧ GenAt wr w.heap.size x ∧ RowU wr base g n cp dk ∧ OthersKept w wr (fun k => k = g) ∧ Hid (Go.Sort.PermIn a b d dk)) (fun vi _ => i0 + 3 - (intOf vi).toNat)
  case atStart => exact ⟨i0, l, d, rfl, Nat.le_refl _, by omega, by omega, HG0.out l, H.out.below (HB0.out _), OthersKept.of_below (HB0.out _), Go.Sort.permIn_refl d a b⟩
  case round =>
    obtain ⟨i, x, dk, rfl, hi0, hi3, hx, hG, hR, hK, hP⟩ := hrel
    have HR := Lib.hid hR
    have HK := Lib.hid hK
    have HG := Lib.hid hG
    clear hR hK hG
    by_cases hc : i ≤ i0 + 2
    · have hci : (i : Int) ≤ (i0 : Int) + 2 := by omega
      go_wp2_with fail
      refine (NX.out _ x wr hx HG.out).mono ?_
      rintro e w2 ⟨y, hy, rfl, hG2, hK2⟩
      have hR2 := HR.out.kept hK2 (fun h => hsg h.symm)
      have HR2 := Lib.hid hR2
      have HK2 := Lib.hid (HK.out.trans hK2 (fun k hk h => by omega))
      have HG2 := Lib.hid hG2
      obtain ⟨O, hO⟩ : ∃ O, O = y &&& (M - 1) := ⟨_, rfl⟩
      have lO : O ≤ M - 1 := by rw [hO]; exact Nat.and_le_right
      have eAnd : bits .and .u64 (y : Int) ((M : Int) - 1) = (O : Int) := by rw [show ((M : Int) - 1) = ((M - 1 : Nat) : Int) by omega, bits_and_u64_nat _ _ hy (by omega), hO]
      clear hG2 hK2 hO hR2
      go_upto_if 43 with fail
      go_cut [10, 43] (fun s10 s43 w' => ∃ o : Nat, o < l ∧ s10 = .int .i64 o ∧ (∃ t, s43 = .bool t) ∧ w' = w2)
      case first =>
        by_cases ho : l ≤ O
        · have hoi : (l : Int) ≤ (O : Int) := by omega
          go_wp2_with fail
          go_meet
          exact ⟨O - l, by omega, by congr 1; omega, ⟨_, rfl⟩, rfl⟩
        · have hoi : ¬ (l : Int) ≤ (O : Int) := by omega
          go_wp2_with fail
          go_meet
          exact ⟨O, by omega, rfl, ⟨_, rfl⟩, rfl⟩
      case rest =>
        obtain ⟨o, hol, rfl, ⟨t, rfl⟩, rfl⟩ := hcut
        obtain ⟨p, hp⟩ : ∃ p, p = a + o := ⟨_, rfl⟩
        have m5 := wadd a o p hp.symm (by omega)
        have hpb : p < b := by omega
        have hap : a ≤ p := by omega
        have hR2 := HR2.out
        have x1 := hR2.cell i (by omega)
        have x2 := hR2.cell p (by omega)
        have f1 := hR2.frozen i
        have f2 := hR2.frozen p
        have SW := Lib.hid (hR2.swap i p (by omega) (by omega))
        have q1 : (0 : Int) ≤ (i : Int) := by omega
        have q2 : (i : Int) < (n : Int) := by omega
        have q3 : (0 : Int) ≤ (p : Int) := by omega
        have q4 : (p : Int) < (n : Int) := by omega
        have hds : b ≤ dk.size := by rw [hR2.size]; exact hb
        have HP2 := Lib.hid (Go.Sort.permIn_trans _ _ _ _ _ hP (Go.Sort.swp_permIn dk a b i p (by omega) (by omega) hap hpb hds))
        clear hR2 hp hP hds
        generalize dk[i]! = u at *
        generalize dk[p]! = v at *
        by_cases hEq : i = p
        · subst hEq
          obtain rfl : u = v := by rw [x1] at x2; injection x2 with x2; injection x2 with _ x2; omega
          clear x2 f2
          go_upto_region 10 with fail
          go_region
          all_goals go_wp2_with fail
          go_roundw
          case rel => exact ⟨i + 1, y, _, by go_num, by omega, by omega, hy, keep_drew (set_keep (set_keep HG2.out hsg) hsg), SW.out.below (Below.refl _ _).drew, (HK2.out.trans (swap_kept _ g _ _ _ _) (fun _ _ h => h)).then_below (Below.refl _ _).drew, HP2.out⟩
          case measure => simp [intOf] <;> omega
        · have hEq2 : ¬ p = i := fun h => hEq h.symm
          go_upto_region 10 with fail
          go_region
          all_goals go_wp2_with fail
          go_roundw
          case rel => exact ⟨i + 1, y, _, by go_num, by omega, by omega, hy, keep_drew (set_keep (set_keep HG2.out hsg) hsg), SW.out.below (Below.refl _ _).drew, (HK2.out.trans (swap_kept _ g _ _ _ _) (fun _ _ h => h)).then_below (Below.refl _ _).drew, HP2.out⟩
          case measure => simp [intOf] <;> omega
    · have hci : ¬ (i : Int) ≤ (i0 : Int) + 2 := by omega
      go_wp2_with fail
      go_end0
      exact ⟨dk, hP.out, rfl, HR.out, HK.out⟩



theorem below_trans2 {w0 w1 w2 : World} (h : Below w0.heap.size w0 w1) (h2 : Below w1.heap.size w1 w2) : Below w0.heap.size w0 w2 :=
  (OthersKept.of_below (p := fun _ => False) h).trans (OthersKept.of_below (p := fun _ => False) h2) (fun _ _ h => h) |>.below (Below.refl _ _) (fun _ _ h => h)
theorem scanUp_go (P : Nat → Bool) (d : Array Nat) (j i : Nat) (h : (decide (i ≤ j) && P d[i]!) = true) : Go.Sort.scanUp P d j i = Go.Sort.scanUp P d j (i + 1) := by
  conv => lhs; rw [Go.Sort.scanUp, if_pos h]
theorem scanUp_stop (P : Nat → Bool) (d : Array Nat) (j i : Nat) (h : (decide (i ≤ j) && P d[i]!) = false) : Go.Sort.scanUp P d j i = i := by
  rw [Go.Sort.scanUp, if_neg (by rw [h]; simp)]
theorem scanDown_go (P : Nat → Bool) (d : Array Nat) (i j : Nat) (hj : 0 < j) (h : (decide (i ≤ j) && P d[j]!) = true) : Go.Sort.scanDown P d i j = Go.Sort.scanDown P d i (j - 1) := by
  obtain ⟨k, rfl⟩ : ∃ k, j = k + 1 := ⟨j - 1, by omega⟩
  conv => lhs; rw [Go.Sort.scanDown, if_pos h]
  rfl
theorem scanDown_stop (P : Nat → Bool) (d : Array Nat) (i j : Nat) (h : (decide (i ≤ j) && P d[j]!) = false) : Go.Sort.scanDown P d i j = j := by
  cases j with
  | zero => rfl
  | succ k => rw [Go.Sort.scanDown, if_neg (by rw [h]; simp)]
theorem partEq_step (a i j i2 j2 : Nat) (d : Array Nat) (h1 : Go.Sort.scanUp (fun x => !ltN d[a]! x) d j i = i2) (h2 : Go.Sort.scanDown (fun x => ltN d[a]! x) d i2 j = j2) :
    Go.Sort.partEqLoop ltN a i j d = if i2 > j2 then (i2, d) else Go.Sort.partEqLoop ltN a (i2 + 1) (j2 - 1) (Go.Sort.swp d i2 j2) := by
  rw [Go.Sort.partEqLoop_eq, h1, h2]
theorem part_step (a i j i2 j2 : Nat) (d : Array Nat) (h1 : Go.Sort.scanUp (fun x => ltN x d[a]!) d j i = i2) (h2 : Go.Sort.scanDown (fun x => !ltN x d[a]!) d i2 j = j2) :
    Go.Sort.partLoop ltN a i j d = if i2 > j2 then (j2, d) else Go.Sort.partLoop ltN a (i2 + 1) (j2 - 1) (Go.Sort.swp d i2 j2) := by
  rw [Go.Sort.partLoop_eq, h1, h2]

set_option maxHeartbeats 4000000 in
set_option maxRecDepth 100000 in
theorem partEq_u64 (base g n cp a b pv m : Nat) (d d4 : Array Nat) (w : World) (hn : n ≤ 1000000) (ha : a ≤ pv) (hp : pv < b) (hb : b ≤ n) (h : RowU w base g n cp d) (hx : Go.Sort.partitionEqual ltN d a b pv = (m, d4)) :
    Calls Try.prog 148 #[.slice (some ⟨g, 0, none⟩) n cp, .int .i64 a, .int .i64 b, .int .i64 pv] w fun e w' => e = .returned (.int .i64 m) ∧ RowU w' base g n cp d4 ∧ OthersKept w w' (fun k => k = g) := by
  have LS := Lib.hid less_u64
  have H := Lib.hid h
  obtain ⟨b1, hb1⟩ : ∃ x, x = b - 1 := ⟨_, rfl⟩
  have HX0 : Hid (Go.Sort.partEqLoop ltN a (a + 1) b1 (Go.Sort.swp d a pv) = (m, d4)) := by show _ = _; rw [hb1]; exact hx
  have eb : (b : Int) - 1 = (b1 : Int) := by omega
  have hab1 : a ≤ b1 := by omega
  have hb1n : b1 < b := by omega
  clear h hx hb1
  go_enter Try.func148, Try.ntmps148
  go_upto_region 1 with fail
  go_cut [] (fun w' => RowU w' base g n cp (Go.Sort.swp d a pv) ∧ OthersKept w w' (fun k => k = g))
  case first =>
    have hRq := H.out
    have x1 := hRq.cell a (by omega)
    have x2 := hRq.cell pv (by omega)
    have f1 := hRq.frozen a
    have f2 := hRq.frozen pv
    have SW := Lib.hid (hRq.swap a pv (by omega) (by omega))
    have q1 : (0 : Int) ≤ (a : Int) := by omega
    have q2 : (a : Int) < (n : Int) := by omega
    have q3 : (0 : Int) ≤ (pv : Int) := by omega
    have q4 : (pv : Int) < (n : Int) := by omega
    clear hRq
    by_cases hEq : a = pv
    · subst hEq
      generalize d[a]! = u at *
      clear x2 f2 q3 q4
      go_region
      all_goals go_wp2_with fail
      go_meet
      exact ⟨SW.out.below (Below.refl _ _).drew, ((OthersKept.of_below (p := fun k => k = g) (Below.refl w.heap.size w)).trans (swap_kept _ g _ _ _ _) (fun _ _ h => h)).then_below (Below.refl _ _).drew⟩
    · have hEq2 : ¬ pv = a := fun h => hEq h.symm
      generalize d[a]! = u at *
      generalize d[pv]! = v at *
      go_region
      all_goals go_wp2_with fail
      go_meet
      exact ⟨SW.out.below (Below.refl _ _).drew, ((OthersKept.of_below (p := fun k => k = g) (Below.refl w.heap.size w)).trans (swap_kept _ g _ _ _ _) (fun _ _ h => h)).then_below (Below.refl _ _).drew⟩
  case rest =>
    obtain ⟨hR, hK⟩ := hcut
    have HR0 := Lib.hid hR
    have HK0 := Lib.hid hK
    clear hR hK
    go_wp2_with fail
    go_loopw [9, 10] (fun s9 s10 wr => ∃ (i j : Nat) (dk : Array Nat), s9 = .int .i64 i ∧ s10 = .int .i64 j ∧ a + 1 ≤ i ∧ i ≤ j + 2 ∧ j < b ∧ a ≤ j ∧ RowU wr base g n cp dk ∧ OthersKept w wr (fun k => k = g) ∧ Hid (Go.Sort.partEqLoop ltN a i j dk = (m, d4))) (fun vi vj _ => (intOf vj).toNat + 1 - (intOf vi).toNat)
    case atStart => exact ⟨a + 1, b1, _, by go_num, rfl, Nat.le_refl _, by omega, hb1n, hab1, HR0.out, HK0.out, HX0⟩
    case round =>
      obtain ⟨i, j, dk, rfl, rfl, hai, hij, hjb, haj, hR, hK, hS⟩ := hrel
      have HR1 := Lib.hid hR
      have HK1 := Lib.hid hK
      have HS1 := hS
      clear hR hK hS
      generalize wr = W1 at *
      obtain ⟨P, hPd⟩ : ∃ P : Nat → Bool, P = fun x => !ltN dk[a]! x := ⟨_, rfl⟩
      obtain ⟨Q, hQd⟩ : ∃ Q : Nat → Bool, Q = fun x => ltN dk[a]! x := ⟨_, rfl⟩
      have hP : ∀ x, P x = !ltN dk[a]! x := fun x => by rw [hPd]
      have hQ : ∀ x, Q x = ltN dk[a]! x := fun x => by rw [hQd]
      have HPd := Lib.hid hPd
      have HQd := Lib.hid hQd
      clear hPd hQd
      go_wp2_with fail
      go_loopw [9] (fun s wr => ∃ v2 : Nat, s = .int .i64 v2 ∧ i ≤ v2 ∧ v2 ≤ j + 2 ∧ Below W1.heap.size W1 wr ∧ Hid (Go.Sort.scanUp P dk j v2 = Go.Sort.scanUp P dk j i)) (fun v _ => j + 1 - (intOf v).toNat)
      case atStart => exact ⟨i, by first | rfl | (congr 1; omega), Nat.le_refl _, by omega, Below.refl _ _, rfl⟩
      case round =>
        obtain ⟨v2, rfl, hv1, hv2, hB, hS⟩ := hrel
        have HB2 := Lib.hid hB
        have HR2 := Lib.hid (HR1.out.below hB)
        have HS2 := hS
        clear hB hS
        go_upto_region 3 with fail
        go_cut [43] (fun st w' => st = .bool (decide (v2 ≤ j) && P dk[v2]!) ∧ Below W1.heap.size W1 w')
        case first =>
          have hRq := HR2.out
          have hgl := hRq.lt
          have e1 := ext_cell (hRq.cell a (by omega)) hgl
          have q1 : (0 : Int) ≤ (a : Int) := by omega
          have q2 : (a : Int) < (n : Int) := by omega
          by_cases hc : v2 ≤ j
          · have hci : (v2 : Int) ≤ (j : Int) := by omega
            have e2 := ext_cell (hRq.cell v2 (by omega)) hgl
            have q3 : (0 : Int) ≤ (v2 : Int) := by omega
            have q4 : (v2 : Int) < (n : Int) := by omega
            have HPv := Lib.hid (hP dk[v2]!)
            have HGD := Lib.hid (decide_eq_true hc)
            clear hRq
            generalize dk[a]! = x at *
            generalize dk[v2]! = y at *
            cases hl : ltN x y with
            | true =>
              have L1 := Lib.hid fun W => LS.out x y W
              rw [hl] at L1
              have HL := Lib.hid hl
              clear hl
              refine wp_region_ext wr.heap.size (by kernel_rfl) (by kernel_rfl) ?_
              repeat (go_big_quiet_step (first | (go_at_call 147; exact ext_call _ (Nat.le_refl _) (L1.out _))))
              refine wpQuiet_nil ?_
              rintro _ ⟨X, rfl⟩
              have HX := Lib.hid X.below
              go_wp2_with fail
              go_meet
              exact ⟨by rw [HGD.out, HPv.out, HL.out]; rfl, below_trans2 HB2.out HX.out⟩
            | false =>
              have L1 := Lib.hid fun W => LS.out x y W
              rw [hl] at L1
              have HL := Lib.hid hl
              clear hl
              refine wp_region_ext wr.heap.size (by kernel_rfl) (by kernel_rfl) ?_
              repeat (go_big_quiet_step (first | (go_at_call 147; exact ext_call _ (Nat.le_refl _) (L1.out _))))
              refine wpQuiet_nil ?_
              rintro _ ⟨X, rfl⟩
              have HX := Lib.hid X.below
              go_wp2_with fail
              go_meet
              exact ⟨by rw [HGD.out, HPv.out, HL.out]; rfl, below_trans2 HB2.out HX.out⟩
          · have hci : ¬ (v2 : Int) ≤ (j : Int) := by omega
            have HGD := Lib.hid (decide_eq_false hc)
            clear hRq
            refine wp_region_ext wr.heap.size (by kernel_rfl) (by kernel_rfl) ?_
            repeat (go_big_quiet_step (fail))
            refine wpQuiet_nil ?_
            rintro _ ⟨X, rfl⟩
            have HX := Lib.hid X.below
            go_wp2_with fail
            go_meet
            exact ⟨by rw [HGD.out]; rfl, below_trans2 HB2.out HX.out⟩
        case rest =>
          obtain ⟨rfl, hb1⟩ := hcut
          have HC2 := Lib.hid hb1
          clear hb1
          cases hT : (decide (v2 ≤ j) && P dk[v2]!) with
          | true =>
            have hc : v2 ≤ j := by simp only [Bool.and_eq_true, decide_eq_true_eq] at hT; exact hT.1
            have hS2 : Hid (Go.Sort.scanUp P dk j (v2 + 1) = Go.Sort.scanUp P dk j i) := (scanUp_go P dk j v2 hT).symm.trans HS2.out
            clear hT
            go_wp2_with fail
            go_roundw
            case rel => exact ⟨v2 + 1, by go_num, by omega, by omega, HC2.out, hS2⟩
            case measure => simp [intOf] <;> omega
          | false =>
            have hE2 : Go.Sort.scanUp P dk j i = v2 := HS2.out.symm.trans (scanUp_stop P dk j v2 hT)
            have HE2 := Lib.hid hE2
            clear hT hE2
            have HR2c := Lib.hid (HR1.out.below HC2.out)
            generalize wc = W2 at *
            have HW2 := Lib.hid (OthersKept.then_below HK1.out HC2.out)
            go_wp2_with fail
            go_loopw [10] (fun s wr => ∃ v3 : Nat, s = .int .i64 v3 ∧ v3 ≤ j ∧ a ≤ v3 ∧ Below W2.heap.size W2 wr ∧ Hid (Go.Sort.scanDown Q dk v2 v3 = Go.Sort.scanDown Q dk v2 j)) (fun v _ => (intOf v).toNat)
            case atStart => exact ⟨j, by first | rfl | (congr 1; omega), Nat.le_refl _, by omega, Below.refl _ _, rfl⟩
            case round =>
              obtain ⟨v3, rfl, hv1, hv2, hB, hS⟩ := hrel
              have HB3 := Lib.hid hB
              have HR3 := Lib.hid (HR2c.out.below hB)
              have HS3 := hS
              clear hB hS
              go_upto_region 5 with fail
              go_cut [59] (fun st w' => st = .bool (decide (v2 ≤ v3) && Q dk[v3]!) ∧ Below W2.heap.size W2 w')
              case first =>
                have hRq := HR3.out
                have hgl := hRq.lt
                have e1 := ext_cell (hRq.cell a (by omega)) hgl
                have q1 : (0 : Int) ≤ (a : Int) := by omega
                have q2 : (a : Int) < (n : Int) := by omega
                by_cases hc : v2 ≤ v3
                · have hci : (v2 : Int) ≤ (v3 : Int) := by omega
                  have e2 := ext_cell (hRq.cell v3 (by omega)) hgl
                  have q3 : (0 : Int) ≤ (v3 : Int) := by omega
                  have q4 : (v3 : Int) < (n : Int) := by omega
                  have HPv := Lib.hid (hQ dk[v3]!)
                  have HGD := Lib.hid (decide_eq_true hc)
                  clear hRq
                  generalize dk[a]! = x at *
                  generalize dk[v3]! = y at *
                  cases hl : ltN x y with
                  | true =>
                    have L1 := Lib.hid fun W => LS.out x y W
                    rw [hl] at L1
                    have HL := Lib.hid hl
                    clear hl
                    refine wp_region_ext wr.heap.size (by kernel_rfl) (by kernel_rfl) ?_
                    repeat (go_big_quiet_step (first | (go_at_call 147; exact ext_call _ (Nat.le_refl _) (L1.out _))))
                    refine wpQuiet_nil ?_
                    rintro _ ⟨X, rfl⟩
                    have HX := Lib.hid X.below
                    go_wp2_with fail
                    go_meet
                    exact ⟨by rw [HGD.out, HPv.out, HL.out]; rfl, below_trans2 HB3.out HX.out⟩
                  | false =>
                    have L1 := Lib.hid fun W => LS.out x y W
                    rw [hl] at L1
                    have HL := Lib.hid hl
                    clear hl
                    refine wp_region_ext wr.heap.size (by kernel_rfl) (by kernel_rfl) ?_
                    repeat (go_big_quiet_step (first | (go_at_call 147; exact ext_call _ (Nat.le_refl _) (L1.out _))))
                    refine wpQuiet_nil ?_
                    rintro _ ⟨X, rfl⟩
                    have HX := Lib.hid X.below
                    go_wp2_with fail
                    go_meet
                    exact ⟨by rw [HGD.out, HPv.out, HL.out]; rfl, below_trans2 HB3.out HX.out⟩
                · have hci : ¬ (v2 : Int) ≤ (v3 : Int) := by omega
                  have HGD := Lib.hid (decide_eq_false hc)
                  clear hRq
                  refine wp_region_ext wr.heap.size (by kernel_rfl) (by kernel_rfl) ?_
                  repeat (go_big_quiet_step (fail))
                  refine wpQuiet_nil ?_
                  rintro _ ⟨X, rfl⟩
                  have HX := Lib.hid X.below
                  go_wp2_with fail
                  go_meet
                  exact ⟨by rw [HGD.out]; rfl, below_trans2 HB3.out HX.out⟩
              case rest =>
                obtain ⟨rfl, hb1⟩ := hcut
                have HC3 := Lib.hid hb1
                clear hb1
                cases hT : (decide (v2 ≤ v3) && Q dk[v3]!) with
                | true =>
                  have hc : v2 ≤ v3 := by simp only [Bool.and_eq_true, decide_eq_true_eq] at hT; exact hT.1
                  have hS2 : Hid (Go.Sort.scanDown Q dk v2 (v3 - 1) = Go.Sort.scanDown Q dk v2 j) := (scanDown_go Q dk v2 v3 (by omega) hT).symm.trans HS3.out
                  clear hT
                  go_wp2_with fail
                  go_roundw
                  case rel => exact ⟨v3 - 1, by congr 1; omega, by omega, by omega, HC3.out, hS2⟩
                  case measure => simp [intOf] <;> omega
                | false =>
                  have hE3 : Go.Sort.scanDown Q dk v2 j = v3 := HS3.out.symm.trans (scanDown_stop Q dk v2 v3 hT)
                  have HE3 := Lib.hid hE3
                  clear hT hE3
                  have HR3c := Lib.hid (HR2c.out.below HC3.out)
                  have HK3 := Lib.hid (HW2.out.then_below HC3.out)
                  have HST := Lib.hid (partEq_step a i j v2 v3 dk (by rw [← HPd.out]; exact HE2.out) (by rw [← HQd.out]; exact HE3.out))
                  by_cases hgt : v2 > v3
                  · have hgti : (v2 : Int) > (v3 : Int) := by omega
                    have hfin : (m, d4) = (v2, dk) := by rw [← HS1.out, HST.out, if_pos hgt]
                    injection hfin with hm hd
                    subst hm hd
                    clear hgt
                    go_wp2_with fail
                    go_ret
                    exact ⟨rfl, HR3c.out, HK3.out⟩
                  · have hgti : ¬ (v2 : Int) > (v3 : Int) := by omega
                    have HS4 : Hid (Go.Sort.partEqLoop ltN a (v2 + 1) (v3 - 1) (Go.Sort.swp dk v2 v3) = (m, d4)) := by show _ = _; rw [← HS1.out, HST.out, if_neg hgt]
                    go_upto_region 8 with fail
                    go_cut [] (fun w' => RowU w' base g n cp (Go.Sort.swp dk v2 v3) ∧ OthersKept w w' (fun k => k = g))
                    case first =>
                      have hRq := HR3c.out
                      have x1 := hRq.cell v2 (by omega)
                      have x2 := hRq.cell v3 (by omega)
                      have f1 := hRq.frozen v2
                      have f2 := hRq.frozen v3
                      have SW := Lib.hid (hRq.swap v2 v3 (by omega) (by omega))
                      have q1 : (0 : Int) ≤ (v2 : Int) := by omega
                      have q2 : (v2 : Int) < (n : Int) := by omega
                      have q3 : (0 : Int) ≤ (v3 : Int) := by omega
                      have q4 : (v3 : Int) < (n : Int) := by omega
                      clear hRq
                      by_cases hEq : v2 = v3
                      · subst hEq
                        generalize dk[v2]! = u at *
                        clear x2 f2 q3 q4
                        go_region
                        all_goals go_wp2_with fail
                        go_meet
                        exact ⟨SW.out.below (Below.refl _ _).drew, (HK3.out.trans (swap_kept _ g _ _ _ _) (fun _ _ h => h)).then_below (Below.refl _ _).drew⟩
                      · have hEq2 : ¬ v3 = v2 := fun h => hEq h.symm
                        generalize dk[v2]! = u at *
                        generalize dk[v3]! = v at *
                        go_region
                        all_goals go_wp2_with fail
                        go_meet
                        exact ⟨SW.out.below (Below.refl _ _).drew, (HK3.out.trans (swap_kept _ g _ _ _ _) (fun _ _ h => h)).then_below (Below.refl _ _).drew⟩
                    case rest =>
                      obtain ⟨hR, hK⟩ := hcut
                      go_wp2_with fail
                      go_roundw
                      case rel => exact ⟨v2 + 1, v3 - 1, _, by go_num, by congr 1; omega, by omega, by omega, by omega, by omega, hR, hK, HS4⟩
                      case measure => simp [intOf] <;> omega



set_option maxHeartbeats 4000000 in
set_option maxRecDepth 100000 in
theorem part_u64 (base g n cp a b pv m : Nat) (ap : Bool) (d d4 : Array Nat) (w : World) (hn : n ≤ 1000000) (ha : a ≤ pv) (hp : pv < b) (hb : b ≤ n) (h : RowU w base g n cp d) (hx : Go.Sort.partition ltN d a b pv = (m, ap, d4)) :
    Calls Try.prog 149 #[.slice (some ⟨g, 0, none⟩) n cp, .int .i64 a, .int .i64 b, .int .i64 pv] w fun e w' => e = .returned (.tuple #[.int .i64 m, .bool ap]) ∧ RowU w' base g n cp d4 ∧ OthersKept w w' (fun k => k = g) := by
  have LS := Lib.hid less_u64
  have H := Lib.hid h
  obtain ⟨b1, hb1⟩ : ∃ x, x = b - 1 := ⟨_, rfl⟩
  have HX0 : Hid (∀ i2 j2, Go.Sort.scanUp (fun x => ltN x (Go.Sort.swp d a pv)[a]!) (Go.Sort.swp d a pv) b1 (a + 1) = i2 → Go.Sort.scanDown (fun x => !ltN x (Go.Sort.swp d a pv)[a]!) (Go.Sort.swp d a pv) i2 b1 = j2 →
      (if i2 > j2 then (j2, true, Go.Sort.swp (Go.Sort.swp d a pv) j2 a) else ((Go.Sort.partLoop ltN a (i2 + 1) (j2 - 1) (Go.Sort.swp (Go.Sort.swp d a pv) i2 j2)).1, false, Go.Sort.swp (Go.Sort.partLoop ltN a (i2 + 1) (j2 - 1) (Go.Sort.swp (Go.Sort.swp d a pv) i2 j2)).2 (Go.Sort.partLoop ltN a (i2 + 1) (j2 - 1) (Go.Sort.swp (Go.Sort.swp d a pv) i2 j2)).1 a)) = (m, ap, d4)) := by
    show ∀ _ _, _
    rintro i2 j2 rfl rfl
    rw [← hx, hb1]
    rfl
  have eb : (b : Int) - 1 = (b1 : Int) := by omega
  have hab1 : a ≤ b1 := by omega
  have hb1n : b1 < b := by omega
  clear h hx hb1
  go_enter Try.func149, Try.ntmps149
  go_upto_region 1 with fail
  go_cut [] (fun w' => RowU w' base g n cp (Go.Sort.swp d a pv) ∧ OthersKept w w' (fun k => k = g))
  case first =>
    have hRq := H.out
    have x1 := hRq.cell a (by omega)
    have x2 := hRq.cell pv (by omega)
    have f1 := hRq.frozen a
    have f2 := hRq.frozen pv
    have SW := Lib.hid (hRq.swap a pv (by omega) (by omega))
    have q1 : (0 : Int) ≤ (a : Int) := by omega
    have q2 : (a : Int) < (n : Int) := by omega
    have q3 : (0 : Int) ≤ (pv : Int) := by omega
    have q4 : (pv : Int) < (n : Int) := by omega
    clear hRq
    by_cases hEq : a = pv
    · subst hEq
      generalize d[a]! = u at *
      clear x2 f2 q3 q4
      go_region
      all_goals go_wp2_with fail
      go_meet
      exact ⟨SW.out.below (Below.refl _ _).drew, ((OthersKept.of_below (p := fun k => k = g) (Below.refl w.heap.size w)).trans (swap_kept _ g _ _ _ _) (fun _ _ h => h)).then_below (Below.refl _ _).drew⟩
    · have hEq2 : ¬ pv = a := fun h => hEq h.symm
      generalize d[a]! = u at *
      generalize d[pv]! = v at *
      go_region
      all_goals go_wp2_with fail
      go_meet
      exact ⟨SW.out.below (Below.refl _ _).drew, ((OthersKept.of_below (p := fun k => k = g) (Below.refl w.heap.size w)).trans (swap_kept _ g _ _ _ _) (fun _ _ h => h)).then_below (Below.refl _ _).drew⟩
  case rest =>
    obtain ⟨hR, hK⟩ := hcut
    generalize Go.Sort.swp d a pv = dk at *
    have HR1 := Lib.hid hR
    have HK1 := Lib.hid hK
    clear hR hK
    generalize wc = W1 at *
    obtain ⟨P, hPd⟩ : ∃ P : Nat → Bool, P = fun x => ltN x dk[a]! := ⟨_, rfl⟩
    obtain ⟨Q, hQd⟩ : ∃ Q : Nat → Bool, Q = fun x => !ltN x dk[a]! := ⟨_, rfl⟩
    have hP : ∀ x, P x = ltN x dk[a]! := fun x => by rw [hPd]
    have hQ : ∀ x, Q x = !ltN x dk[a]! := fun x => by rw [hQd]
    have HPd := Lib.hid hPd
    have HQd := Lib.hid hQd
    clear hPd hQd
    go_wp2_with fail
    go_loopw [10] (fun s wr => ∃ v2 : Nat, s = .int .i64 v2 ∧ (a + 1) ≤ v2 ∧ v2 ≤ b1 + 2 ∧ Below W1.heap.size W1 wr ∧ Hid (Go.Sort.scanUp P dk b1 v2 = Go.Sort.scanUp P dk b1 (a + 1))) (fun v _ => b1 + 1 - (intOf v).toNat)
    case atStart => exact ⟨(a + 1), by first | rfl | (congr 1; omega), Nat.le_refl _, by omega, Below.refl _ _, rfl⟩
    case round =>
      obtain ⟨v2, rfl, hv1, hv2, hB, hS⟩ := hrel
      have HB2 := Lib.hid hB
      have HR2 := Lib.hid (HR1.out.below hB)
      have HS2 := hS
      clear hB hS
      go_upto_region 3 with fail
      go_cut [43] (fun st w' => st = .bool (decide (v2 ≤ b1) && P dk[v2]!) ∧ Below W1.heap.size W1 w')
      case first =>
        have hRq := HR2.out
        have hgl := hRq.lt
        have e1 := ext_cell (hRq.cell a (by omega)) hgl
        have q1 : (0 : Int) ≤ (a : Int) := by omega
        have q2 : (a : Int) < (n : Int) := by omega
        by_cases hc : v2 ≤ b1
        · have hci : (v2 : Int) ≤ (b1 : Int) := by omega
          have e2 := ext_cell (hRq.cell v2 (by omega)) hgl
          have q3 : (0 : Int) ≤ (v2 : Int) := by omega
          have q4 : (v2 : Int) < (n : Int) := by omega
          have HPv := Lib.hid (hP dk[v2]!)
          have HGD := Lib.hid (decide_eq_true hc)
          clear hRq
          generalize dk[a]! = x at *
          generalize dk[v2]! = y at *
          cases hl : ltN y x with
          | true =>
            have L1 := Lib.hid fun W => LS.out y x W
            rw [hl] at L1
            have HL := Lib.hid hl
            clear hl
            refine wp_region_ext wr.heap.size (by kernel_rfl) (by kernel_rfl) ?_
            repeat (go_big_quiet_step (first | (go_at_call 147; exact ext_call _ (Nat.le_refl _) (L1.out _))))
            refine wpQuiet_nil ?_
            rintro _ ⟨X, rfl⟩
            have HX := Lib.hid X.below
            go_wp2_with fail
            go_meet
            exact ⟨by rw [HGD.out, HPv.out, HL.out]; rfl, below_trans2 HB2.out HX.out⟩
          | false =>
            have L1 := Lib.hid fun W => LS.out y x W
            rw [hl] at L1
            have HL := Lib.hid hl
            clear hl
            refine wp_region_ext wr.heap.size (by kernel_rfl) (by kernel_rfl) ?_
            repeat (go_big_quiet_step (first | (go_at_call 147; exact ext_call _ (Nat.le_refl _) (L1.out _))))
            refine wpQuiet_nil ?_
            rintro _ ⟨X, rfl⟩
            have HX := Lib.hid X.below
            go_wp2_with fail
            go_meet
            exact ⟨by rw [HGD.out, HPv.out, HL.out]; rfl, below_trans2 HB2.out HX.out⟩
        · have hci : ¬ (v2 : Int) ≤ (b1 : Int) := by omega
          have HGD := Lib.hid (decide_eq_false hc)
          clear hRq
          refine wp_region_ext wr.heap.size (by kernel_rfl) (by kernel_rfl) ?_
          repeat (go_big_quiet_step (fail))
          refine wpQuiet_nil ?_
          rintro _ ⟨X, rfl⟩
          have HX := Lib.hid X.below
          go_wp2_with fail
          go_meet
          exact ⟨by rw [HGD.out]; rfl, below_trans2 HB2.out HX.out⟩
      case rest =>
        obtain ⟨rfl, hb1⟩ := hcut
        have HC2 := Lib.hid hb1
        clear hb1
        cases hT : (decide (v2 ≤ b1) && P dk[v2]!) with
        | true =>
          have hc : v2 ≤ b1 := by simp only [Bool.and_eq_true, decide_eq_true_eq] at hT; exact hT.1
          have hS2 : Hid (Go.Sort.scanUp P dk b1 (v2 + 1) = Go.Sort.scanUp P dk b1 (a + 1)) := (scanUp_go P dk b1 v2 hT).symm.trans HS2.out
          clear hT
          go_wp2_with fail
          go_roundw
          case rel => exact ⟨v2 + 1, by go_num, by omega, by omega, HC2.out, hS2⟩
          case measure => simp [intOf] <;> omega
        | false =>
          have hE2 : Go.Sort.scanUp P dk b1 (a + 1) = v2 := HS2.out.symm.trans (scanUp_stop P dk b1 v2 hT)
          have HE2 := Lib.hid hE2
          clear hT hE2
          have HR2c := Lib.hid (HR1.out.below HC2.out)
          generalize wc = W2 at *
          have HW2 := Lib.hid (OthersKept.then_below HK1.out HC2.out)
          go_wp2_with fail
          go_loopw [11] (fun s wr => ∃ v3 : Nat, s = .int .i64 v3 ∧ v3 ≤ b1 ∧ a ≤ v3 ∧ Below W2.heap.size W2 wr ∧ Hid (Go.Sort.scanDown Q dk v2 v3 = Go.Sort.scanDown Q dk v2 b1)) (fun v _ => (intOf v).toNat)
          case atStart => exact ⟨b1, by first | rfl | (congr 1; omega), Nat.le_refl _, by omega, Below.refl _ _, rfl⟩
          case round =>
            obtain ⟨v3, rfl, hv1, hv2, hB, hS⟩ := hrel
            have HB3 := Lib.hid hB
            have HR3 := Lib.hid (HR2c.out.below hB)
            have HS3 := hS
            clear hB hS
            go_upto_region 5 with fail
            go_cut [60] (fun st w' => st = .bool (decide (v2 ≤ v3) && Q dk[v3]!) ∧ Below W2.heap.size W2 w')
            case first =>
              have hRq := HR3.out
              have hgl := hRq.lt
              have e1 := ext_cell (hRq.cell a (by omega)) hgl
              have q1 : (0 : Int) ≤ (a : Int) := by omega
              have q2 : (a : Int) < (n : Int) := by omega
              by_cases hc : v2 ≤ v3
              · have hci : (v2 : Int) ≤ (v3 : Int) := by omega
                have e2 := ext_cell (hRq.cell v3 (by omega)) hgl
                have q3 : (0 : Int) ≤ (v3 : Int) := by omega
                have q4 : (v3 : Int) < (n : Int) := by omega
                have HPv := Lib.hid (hQ dk[v3]!)
                have HGD := Lib.hid (decide_eq_true hc)
                clear hRq
                generalize dk[a]! = x at *
                generalize dk[v3]! = y at *
                cases hl : ltN y x with
                | true =>
                  have L1 := Lib.hid fun W => LS.out y x W
                  rw [hl] at L1
                  have HL := Lib.hid hl
                  clear hl
                  refine wp_region_ext wr.heap.size (by kernel_rfl) (by kernel_rfl) ?_
                  repeat (go_big_quiet_step (first | (go_at_call 147; exact ext_call _ (Nat.le_refl _) (L1.out _))))
                  refine wpQuiet_nil ?_
                  rintro _ ⟨X, rfl⟩
                  have HX := Lib.hid X.below
                  go_wp2_with fail
                  go_meet
                  exact ⟨by rw [HGD.out, HPv.out, HL.out]; rfl, below_trans2 HB3.out HX.out⟩
                | false =>
                  have L1 := Lib.hid fun W => LS.out y x W
                  rw [hl] at L1
                  have HL := Lib.hid hl
                  clear hl
                  refine wp_region_ext wr.heap.size (by kernel_rfl) (by kernel_rfl) ?_
                  repeat (go_big_quiet_step (first | (go_at_call 147; exact ext_call _ (Nat.le_refl _) (L1.out _))))
                  refine wpQuiet_nil ?_
                  rintro _ ⟨X, rfl⟩
                  have HX := Lib.hid X.below
                  go_wp2_with fail
                  go_meet
                  exact ⟨by rw [HGD.out, HPv.out, HL.out]; rfl, below_trans2 HB3.out HX.out⟩
              · have hci : ¬ (v2 : Int) ≤ (v3 : Int) := by omega
                have HGD := Lib.hid (decide_eq_false hc)
                clear hRq
                refine wp_region_ext wr.heap.size (by kernel_rfl) (by kernel_rfl) ?_
                repeat (go_big_quiet_step (fail))
                refine wpQuiet_nil ?_
                rintro _ ⟨X, rfl⟩
                have HX := Lib.hid X.below
                go_wp2_with fail
                go_meet
                exact ⟨by rw [HGD.out]; rfl, below_trans2 HB3.out HX.out⟩
            case rest =>
              obtain ⟨rfl, hb1⟩ := hcut
              have HC3 := Lib.hid hb1
              clear hb1
              cases hT : (decide (v2 ≤ v3) && Q dk[v3]!) with
              | true =>
                have hc : v2 ≤ v3 := by simp only [Bool.and_eq_true, decide_eq_true_eq] at hT; exact hT.1
                have hS2 : Hid (Go.Sort.scanDown Q dk v2 (v3 - 1) = Go.Sort.scanDown Q dk v2 b1) := (scanDown_go Q dk v2 v3 (by omega) hT).symm.trans HS3.out
                clear hT
                go_wp2_with fail
                go_roundw
                case rel => exact ⟨v3 - 1, by congr 1; omega, by omega, by omega, HC3.out, hS2⟩
                case measure => simp [intOf] <;> omega
              | false =>
                have hE3 : Go.Sort.scanDown Q dk v2 b1 = v3 := HS3.out.symm.trans (scanDown_stop Q dk v2 v3 hT)
                have HE3 := Lib.hid hE3
                clear hT hE3
                have HR3c := Lib.hid (HR2c.out.below HC3.out)
                have HK3 := Lib.hid (HW2.out.then_below HC3.out)
                have HST := Lib.hid (HX0.out v2 v3 (by rw [← HPd.out]; exact HE2.out) (by rw [← HQd.out]; exact HE3.out))
                by_cases hgt : v2 > v3
                · have hgti : (v2 : Int) > (v3 : Int) := by omega
                  have hfin := HST.out
                  rw [if_pos hgt] at hfin
                  injection hfin with hm hd
                  injection hd with ha2 hd
                  subst hm ha2 hd
                  clear hgt

                  go_upto_region 8 with fail
                  go_cut [] (fun w' => RowU w' base g n cp (Go.Sort.swp dk v3 a) ∧ OthersKept w w' (fun k => k = g))
                  case first =>
                    have hRq := HR3c.out
                    have x1 := hRq.cell v3 (by omega)
                    have x2 := hRq.cell a (by omega)
                    have f1 := hRq.frozen v3
                    have f2 := hRq.frozen a
                    have SW := Lib.hid (hRq.swap v3 a (by omega) (by omega))
                    have q1 : (0 : Int) ≤ (v3 : Int) := by omega
                    have q2 : (v3 : Int) < (n : Int) := by omega
                    have q3 : (0 : Int) ≤ (a : Int) := by omega
                    have q4 : (a : Int) < (n : Int) := by omega
                    clear hRq
                    by_cases hEq : v3 = a
                    · subst hEq
                      generalize dk[v3]! = u at *
                      clear x2 f2 q3 q4
                      go_region
                      all_goals go_wp2_with fail
                      go_meet
                      exact ⟨SW.out.below (Below.refl _ _).drew, (HK3.out.trans (swap_kept _ g _ _ _ _) (fun _ _ h => h)).then_below (Below.refl _ _).drew⟩
                    · have hEq2 : ¬ a = v3 := fun h => hEq h.symm
                      generalize dk[v3]! = u at *
                      generalize dk[a]! = v at *
                      go_region
                      all_goals go_wp2_with fail
                      go_meet
                      exact ⟨SW.out.below (Below.refl _ _).drew, (HK3.out.trans (swap_kept _ g _ _ _ _) (fun _ _ h => h)).then_below (Below.refl _ _).drew⟩
                  case rest =>
                    obtain ⟨hR, hK⟩ := hcut
                    go_wp2_with fail
                    go_ret2
                    exact ⟨rfl, hR, hK⟩
                · have hgti2 : ¬ (v2 : Int) > (v3 : Int) := by omega
                  have HHH := HST.out
                  rw [if_neg hgt] at HHH
                  obtain ⟨r, hr⟩ : ∃ x, x = Go.Sort.partLoop ltN a (v2 + 1) (v3 - 1) (Go.Sort.swp dk v2 v3) := ⟨_, rfl⟩
                  rw [← hr] at HHH
                  have HHH := Lib.hid HHH
                  have HRr := Lib.hid hr
                  clear hr
                  go_upto_region 10 with fail
                  go_cut [] (fun w' => RowU w' base g n cp (Go.Sort.swp dk v2 v3) ∧ OthersKept w w' (fun k => k = g))
                  case first =>
                    have hRq := HR3c.out
                    have x1 := hRq.cell v2 (by omega)
                    have x2 := hRq.cell v3 (by omega)
                    have f1 := hRq.frozen v2
                    have f2 := hRq.frozen v3
                    have SW := Lib.hid (hRq.swap v2 v3 (by omega) (by omega))
                    have q1 : (0 : Int) ≤ (v2 : Int) := by omega
                    have q2 : (v2 : Int) < (n : Int) := by omega
                    have q3 : (0 : Int) ≤ (v3 : Int) := by omega
                    have q4 : (v3 : Int) < (n : Int) := by omega
                    clear hRq
                    by_cases hEq : v2 = v3
                    · subst hEq
                      generalize dk[v2]! = u at *
                      clear x2 f2 q3 q4
                      go_region
                      all_goals go_wp2_with fail
                      go_meet
                      exact ⟨SW.out.below (Below.refl _ _).drew, (HK3.out.trans (swap_kept _ g _ _ _ _) (fun _ _ h => h)).then_below (Below.refl _ _).drew⟩
                    · have hEq2 : ¬ v3 = v2 := fun h => hEq h.symm
                      generalize dk[v2]! = u at *
                      generalize dk[v3]! = v at *
                      go_region
                      all_goals go_wp2_with fail
                      go_meet
                      exact ⟨SW.out.below (Below.refl _ _).drew, (HK3.out.trans (swap_kept _ g _ _ _ _) (fun _ _ h => h)).then_below (Below.refl _ _).drew⟩
                  case rest =>
                    obtain ⟨hR, hK⟩ := hcut
                    have HR4 := Lib.hid hR
                    have HK4 := Lib.hid hK
                    clear hR hK
                    go_wp2_with fail
                    go_loopw [10, 11] (fun s9 s10 wr => ∃ (i j : Nat) (dk : Array Nat), s9 = .int .i64 i ∧ s10 = .int .i64 j ∧ a + 1 ≤ i ∧ i ≤ j + 2 ∧ j < b ∧ a ≤ j ∧ RowU wr base g n cp dk ∧ OthersKept w wr (fun k => k = g) ∧ Hid (Go.Sort.partLoop ltN a i j dk = r)) (fun vi vj _ => (intOf vj).toNat + 1 - (intOf vi).toNat)
                    case atStart => exact ⟨v2 + 1, v3 - 1, _, by go_num, by congr 1; omega, by omega, by omega, by omega, by omega, HR4.out, HK4.out, HRr.out.symm⟩
                    case round =>
                      obtain ⟨i, j, dk, rfl, rfl, hai, hij, hjb, haj, hR, hK, hS⟩ := hrel
                      have HR1 := Lib.hid hR
                      have HK1 := Lib.hid hK
                      have HS1 := hS
                      clear hR hK hS
                      generalize wr = W1 at *
                      obtain ⟨P, hPd⟩ : ∃ P : Nat → Bool, P = fun x => ltN x dk[a]! := ⟨_, rfl⟩
                      obtain ⟨Q, hQd⟩ : ∃ Q : Nat → Bool, Q = fun x => !ltN x dk[a]! := ⟨_, rfl⟩
                      have hP : ∀ x, P x = ltN x dk[a]! := fun x => by rw [hPd]
                      have hQ : ∀ x, Q x = !ltN x dk[a]! := fun x => by rw [hQd]
                      have HPd := Lib.hid hPd
                      have HQd := Lib.hid hQd
                      clear hPd hQd
                      go_wp2_with fail
                      go_loopw [10] (fun s wr => ∃ v4 : Nat, s = .int .i64 v4 ∧ i ≤ v4 ∧ v4 ≤ j + 2 ∧ Below W1.heap.size W1 wr ∧ Hid (Go.Sort.scanUp P dk j v4 = Go.Sort.scanUp P dk j i)) (fun v _ => j + 1 - (intOf v).toNat)
                      case atStart => exact ⟨i, by first | rfl | (congr 1; omega), Nat.le_refl _, by omega, Below.refl _ _, rfl⟩
                      case round =>
                        obtain ⟨v4, rfl, hv1, hv2, hB, hS⟩ := hrel
                        have HB4 := Lib.hid hB
                        have HR4 := Lib.hid (HR1.out.below hB)
                        have HS4 := hS
                        clear hB hS
                        go_upto_region 13 with fail
                        go_cut [112] (fun st w' => st = .bool (decide (v4 ≤ j) && P dk[v4]!) ∧ Below W1.heap.size W1 w')
                        case first =>
                          have hRq := HR4.out
                          have hgl := hRq.lt
                          have e1 := ext_cell (hRq.cell a (by omega)) hgl
                          have q1 : (0 : Int) ≤ (a : Int) := by omega
                          have q2 : (a : Int) < (n : Int) := by omega
                          by_cases hc : v4 ≤ j
                          · have hci : (v4 : Int) ≤ (j : Int) := by omega
                            have e2 := ext_cell (hRq.cell v4 (by omega)) hgl
                            have q3 : (0 : Int) ≤ (v4 : Int) := by omega
                            have q4 : (v4 : Int) < (n : Int) := by omega
                            have HPv := Lib.hid (hP dk[v4]!)
                            have HGD := Lib.hid (decide_eq_true hc)
                            clear hRq
                            generalize dk[a]! = x at *
                            generalize dk[v4]! = y at *
                            cases hl : ltN y x with
                            | true =>
                              have L1 := Lib.hid fun W => LS.out y x W
                              rw [hl] at L1
                              have HL := Lib.hid hl
                              clear hl
                              refine wp_region_ext wr.heap.size (by kernel_rfl) (by kernel_rfl) ?_
                              repeat (go_big_quiet_step (first | (go_at_call 147; exact ext_call _ (Nat.le_refl _) (L1.out _))))
                              refine wpQuiet_nil ?_
                              rintro _ ⟨X, rfl⟩
                              have HX := Lib.hid X.below
                              go_wp2_with fail
                              go_meet
                              exact ⟨by rw [HGD.out, HPv.out, HL.out]; rfl, below_trans2 HB4.out HX.out⟩
                            | false =>
                              have L1 := Lib.hid fun W => LS.out y x W
                              rw [hl] at L1
                              have HL := Lib.hid hl
                              clear hl
                              refine wp_region_ext wr.heap.size (by kernel_rfl) (by kernel_rfl) ?_
                              repeat (go_big_quiet_step (first | (go_at_call 147; exact ext_call _ (Nat.le_refl _) (L1.out _))))
                              refine wpQuiet_nil ?_
                              rintro _ ⟨X, rfl⟩
                              have HX := Lib.hid X.below
                              go_wp2_with fail
                              go_meet
                              exact ⟨by rw [HGD.out, HPv.out, HL.out]; rfl, below_trans2 HB4.out HX.out⟩
                          · have hci : ¬ (v4 : Int) ≤ (j : Int) := by omega
                            have HGD := Lib.hid (decide_eq_false hc)
                            clear hRq
                            refine wp_region_ext wr.heap.size (by kernel_rfl) (by kernel_rfl) ?_
                            repeat (go_big_quiet_step (fail))
                            refine wpQuiet_nil ?_
                            rintro _ ⟨X, rfl⟩
                            have HX := Lib.hid X.below
                            go_wp2_with fail
                            go_meet
                            exact ⟨by rw [HGD.out]; rfl, below_trans2 HB4.out HX.out⟩
                        case rest =>
                          obtain ⟨rfl, hb1⟩ := hcut
                          have HC4 := Lib.hid hb1
                          clear hb1
                          cases hT : (decide (v4 ≤ j) && P dk[v4]!) with
                          | true =>
                            have hc : v4 ≤ j := by simp only [Bool.and_eq_true, decide_eq_true_eq] at hT; exact hT.1
                            have hS2 : Hid (Go.Sort.scanUp P dk j (v4 + 1) = Go.Sort.scanUp P dk j i) := (scanUp_go P dk j v4 hT).symm.trans HS4.out
                            clear hT
                            go_wp2_with fail
                            go_roundw
                            case rel => exact ⟨v4 + 1, by go_num, by omega, by omega, HC4.out, hS2⟩
                            case measure => simp [intOf] <;> omega
                          | false =>
                            have hE4 : Go.Sort.scanUp P dk j i = v4 := HS4.out.symm.trans (scanUp_stop P dk j v4 hT)
                            have HE4 := Lib.hid hE4
                            clear hT hE4
                            have HR4c := Lib.hid (HR1.out.below HC4.out)
                            generalize wc = W2 at *
                            have HW2 := Lib.hid (OthersKept.then_below HK1.out HC4.out)
                            go_wp2_with fail
                            go_loopw [11] (fun s wr => ∃ v5 : Nat, s = .int .i64 v5 ∧ v5 ≤ j ∧ a ≤ v5 ∧ Below W2.heap.size W2 wr ∧ Hid (Go.Sort.scanDown Q dk v4 v5 = Go.Sort.scanDown Q dk v4 j)) (fun v _ => (intOf v).toNat)
                            case atStart => exact ⟨j, by first | rfl | (congr 1; omega), Nat.le_refl _, by omega, Below.refl _ _, rfl⟩
                            case round =>
                              obtain ⟨v5, rfl, hv1, hv2, hB, hS⟩ := hrel
                              have HB5 := Lib.hid hB
                              have HR5 := Lib.hid (HR4c.out.below hB)
                              have HS5 := hS
                              clear hB hS
                              go_upto_region 15 with fail
                              go_cut [129] (fun st w' => st = .bool (decide (v4 ≤ v5) && Q dk[v5]!) ∧ Below W2.heap.size W2 w')
                              case first =>
                                have hRq := HR5.out
                                have hgl := hRq.lt
                                have e1 := ext_cell (hRq.cell a (by omega)) hgl
                                have q1 : (0 : Int) ≤ (a : Int) := by omega
                                have q2 : (a : Int) < (n : Int) := by omega
                                by_cases hc : v4 ≤ v5
                                · have hci : (v4 : Int) ≤ (v5 : Int) := by omega
                                  have e2 := ext_cell (hRq.cell v5 (by omega)) hgl
                                  have q3 : (0 : Int) ≤ (v5 : Int) := by omega
                                  have q4 : (v5 : Int) < (n : Int) := by omega
                                  have HPv := Lib.hid (hQ dk[v5]!)
                                  have HGD := Lib.hid (decide_eq_true hc)
                                  clear hRq
                                  generalize dk[a]! = x at *
                                  generalize dk[v5]! = y at *
                                  cases hl : ltN y x with
                                  | true =>
                                    have L1 := Lib.hid fun W => LS.out y x W
                                    rw [hl] at L1
                                    have HL := Lib.hid hl
                                    clear hl
                                    refine wp_region_ext wr.heap.size (by kernel_rfl) (by kernel_rfl) ?_
                                    repeat (go_big_quiet_step (first | (go_at_call 147; exact ext_call _ (Nat.le_refl _) (L1.out _))))
                                    refine wpQuiet_nil ?_
                                    rintro _ ⟨X, rfl⟩
                                    have HX := Lib.hid X.below
                                    go_wp2_with fail
                                    go_meet
                                    exact ⟨by rw [HGD.out, HPv.out, HL.out]; rfl, below_trans2 HB5.out HX.out⟩
                                  | false =>
                                    have L1 := Lib.hid fun W => LS.out y x W
                                    rw [hl] at L1
                                    have HL := Lib.hid hl
                                    clear hl
                                    refine wp_region_ext wr.heap.size (by kernel_rfl) (by kernel_rfl) ?_
                                    repeat (go_big_quiet_step (first | (go_at_call 147; exact ext_call _ (Nat.le_refl _) (L1.out _))))
                                    refine wpQuiet_nil ?_
                                    rintro _ ⟨X, rfl⟩
                                    have HX := Lib.hid X.below
                                    go_wp2_with fail
                                    go_meet
                                    exact ⟨by rw [HGD.out, HPv.out, HL.out]; rfl, below_trans2 HB5.out HX.out⟩
                                · have hci : ¬ (v4 : Int) ≤ (v5 : Int) := by omega
                                  have HGD := Lib.hid (decide_eq_false hc)
                                  clear hRq
                                  refine wp_region_ext wr.heap.size (by kernel_rfl) (by kernel_rfl) ?_
                                  repeat (go_big_quiet_step (fail))
                                  refine wpQuiet_nil ?_
                                  rintro _ ⟨X, rfl⟩
                                  have HX := Lib.hid X.below
                                  go_wp2_with fail
                                  go_meet
                                  exact ⟨by rw [HGD.out]; rfl, below_trans2 HB5.out HX.out⟩
                              case rest =>
                                obtain ⟨rfl, hb1⟩ := hcut
                                have HC5 := Lib.hid hb1
                                clear hb1
                                cases hT : (decide (v4 ≤ v5) && Q dk[v5]!) with
                                | true =>
                                  have hc : v4 ≤ v5 := by simp only [Bool.and_eq_true, decide_eq_true_eq] at hT; exact hT.1
                                  have hS2 : Hid (Go.Sort.scanDown Q dk v4 (v5 - 1) = Go.Sort.scanDown Q dk v4 j) := (scanDown_go Q dk v4 v5 (by omega) hT).symm.trans HS5.out
                                  clear hT
                                  go_wp2_with fail
                                  go_roundw
                                  case rel => exact ⟨v5 - 1, by congr 1; omega, by omega, by omega, HC5.out, hS2⟩
                                  case measure => simp [intOf] <;> omega
                                | false =>
                                  have hE5 : Go.Sort.scanDown Q dk v4 j = v5 := HS5.out.symm.trans (scanDown_stop Q dk v4 v5 hT)
                                  have HE5 := Lib.hid hE5
                                  clear hT hE5
                                  have HR5c := Lib.hid (HR4c.out.below HC5.out)
                                  have HK5 := Lib.hid (HW2.out.then_below HC5.out)
                                  have HST := Lib.hid (part_step a i j v4 v5 dk (by rw [← HPd.out]; exact HE4.out) (by rw [← HQd.out]; exact HE5.out))
                                  by_cases hgt : v4 > v5
                                  · have hgti : (v4 : Int) > (v5 : Int) := by omega
                                    have hfin : r = (v5, dk) := by rw [← HS1.out, HST.out, if_pos hgt]
                                    have hHH := HHH.out
                                    rw [hfin] at hHH
                                    injection hHH with hm hd
                                    injection hd with ha2 hd
                                    subst hm ha2 hd
                                    clear hgt hfin hgti2
                                    go_upto_region 21 with fail
                                    go_cut [] (fun w' => RowU w' base g n cp (Go.Sort.swp dk v5 a) ∧ OthersKept w w' (fun k => k = g))
                                    case first =>
                                      have hRq := HR5c.out
                                      have x1 := hRq.cell v5 (by omega)
                                      have x2 := hRq.cell a (by omega)
                                      have f1 := hRq.frozen v5
                                      have f2 := hRq.frozen a
                                      have SW := Lib.hid (hRq.swap v5 a (by omega) (by omega))
                                      have q1 : (0 : Int) ≤ (v5 : Int) := by omega
                                      have q2 : (v5 : Int) < (n : Int) := by omega
                                      have q3 : (0 : Int) ≤ (a : Int) := by omega
                                      have q4 : (a : Int) < (n : Int) := by omega
                                      clear hRq
                                      by_cases hEq : v5 = a
                                      · subst hEq
                                        generalize dk[v5]! = u at *
                                        clear x2 f2 q3 q4
                                        go_region
                                        all_goals go_wp2_with fail
                                        go_meet
                                        exact ⟨SW.out.below (Below.refl _ _).drew, (HK5.out.trans (swap_kept _ g _ _ _ _) (fun _ _ h => h)).then_below (Below.refl _ _).drew⟩
                                      · have hEq2 : ¬ a = v5 := fun h => hEq h.symm
                                        generalize dk[v5]! = u at *
                                        generalize dk[a]! = v at *
                                        go_region
                                        all_goals go_wp2_with fail
                                        go_meet
                                        exact ⟨SW.out.below (Below.refl _ _).drew, (HK5.out.trans (swap_kept _ g _ _ _ _) (fun _ _ h => h)).then_below (Below.refl _ _).drew⟩
                                    case rest =>
                                      obtain ⟨hR, hK⟩ := hcut
                                      go_wp2_with fail
                                      go_ret2
                                      exact ⟨rfl, hR, hK⟩
                                  · have hgti : ¬ (v4 : Int) > (v5 : Int) := by omega
                                    have HS4 : Hid (Go.Sort.partLoop ltN a (v4 + 1) (v5 - 1) (Go.Sort.swp dk v4 v5) = r) := by show _ = _; rw [← HS1.out, HST.out, if_neg hgt]
                                    go_upto_region 18 with fail
                                    go_cut [] (fun w' => RowU w' base g n cp (Go.Sort.swp dk v4 v5) ∧ OthersKept w w' (fun k => k = g))
                                    case first =>
                                      have hRq := HR5c.out
                                      have x1 := hRq.cell v4 (by omega)
                                      have x2 := hRq.cell v5 (by omega)
                                      have f1 := hRq.frozen v4
                                      have f2 := hRq.frozen v5
                                      have SW := Lib.hid (hRq.swap v4 v5 (by omega) (by omega))
                                      have q1 : (0 : Int) ≤ (v4 : Int) := by omega
                                      have q2 : (v4 : Int) < (n : Int) := by omega
                                      have q3 : (0 : Int) ≤ (v5 : Int) := by omega
                                      have q4 : (v5 : Int) < (n : Int) := by omega
                                      clear hRq
                                      by_cases hEq : v4 = v5
                                      · subst hEq
                                        generalize dk[v4]! = u at *
                                        clear x2 f2 q3 q4
                                        go_region
                                        all_goals go_wp2_with fail
                                        go_meet
                                        exact ⟨SW.out.below (Below.refl _ _).drew, (HK5.out.trans (swap_kept _ g _ _ _ _) (fun _ _ h => h)).then_below (Below.refl _ _).drew⟩
                                      · have hEq2 : ¬ v5 = v4 := fun h => hEq h.symm
                                        generalize dk[v4]! = u at *
                                        generalize dk[v5]! = v at *
                                        go_region
                                        all_goals go_wp2_with fail
                                        go_meet
                                        exact ⟨SW.out.below (Below.refl _ _).drew, (HK5.out.trans (swap_kept _ g _ _ _ _) (fun _ _ h => h)).then_below (Below.refl _ _).drew⟩
                                    case rest =>
                                      obtain ⟨hR, hK⟩ := hcut
                                      go_wp2_with fail
                                      go_roundw
                                      case rel => exact ⟨v4 + 1, v5 - 1, _, by go_num, by congr 1; omega, by omega, by omega, by omega, by omega, hR, hK, HS4⟩
                                      case measure => simp [intOf] <;> omega


end Go.Proofs.Ytjcfnfpilladfaa
