/- The document's locks: Take. -/
import Derived.Test.YtoeaakadpillnaaRows
import Derived.Test.YtoeaakadpillnaaLockRef
import Derived.Test.YtoeaakadpillnaaLockOnePlain
import Derived.Test.YtoeaakadpillnaaLockActs
import Derived.Test.YtoeaakadpillnaaLockRest
import Derived.Test.YtoeaakadpillnaaLockHeld
import Derived.Test.YtoeaakadpillnaaLockWalks
import Derived.Test.YtoeaakadpillnaaKept
import Derived.Test.YtoeaakadpillnaaQuietTail
import Derived.Test.YtoeaakadpillnaaAppAny
import Derived.Deep.LoopGhost
import Derived.WalkKit
import Derived.WalkLawsBesides
import Derived.WalkSpells
import Derived.LoopTactic
import Derived.WalkMore
import Derived.LoopN
import Derived.Laws.BitsAllLaws
import Derived.Laws.IdiomStrings
import Derived.BigQuiet
import Derived.Deep.QuietTactic
import Derived.Deep.DeepCutAuto
import Derived.Deep.RegionHeld3
import Derived.Deep.DrawnRows
import Derived.Lib.Hide
import Derived.Outline
import Derived.Deep.DeepMust
import Derived.Handy
namespace Go.Proofs.Ytoeaakadpillnaa
open Go.RowKit
set_option linter.unusedVariables false
set_option linter.unusedSimpArgs false

theorem reads_front {w : World} {base n cp : Nat} {e : TypeId} {b : Option Addr} {xs : List Value} (h : w.ownsRow base e 1 (.slice b n cp) n xs) (k : Nat) (hk : k ≤ n) : Reads w (.slice b k cp) k 1 (xs.take k) := by
  rcases h.2 with ⟨he, rfl⟩ | ⟨g, cap, cur, he, hb, hg, h1, h2, _⟩
  · injection he with e1 e2 e3
    subst e1 e3
    obtain rfl : k = 0 := by omega
    exact .inl ⟨rfl, rfl, by simp⟩
  · injection he with e1 e2 e3
    subst e1 e3
    exact reads_take1 h k cp hk
theorem reads_back {w : World} {base n cp : Nat} {e : TypeId} {b : Option Addr} {xs : List Value} (h : w.ownsRow base e 1 (.slice b n cp) n xs) (k : Nat) (hk : k ≤ n) : Reads w (.slice (if cp = k then b else Option.map (fun x => x.add k) b) (n - k) (cp - k)) (n - k) 1 (xs.drop k) := by
  rcases h.2 with ⟨he, rfl⟩ | ⟨g, cap, cur, he, hb, hg, h1, h2, _⟩
  · injection he with e1 e2 e3
    subst e1 e3
    obtain rfl : k = 0 := by omega
    have : xs = [] := by have := h.1; exact List.length_eq_zero_iff.1 (by simpa using this)
    exact .inl ⟨by simp, rfl, by simp [this]⟩
  · injection he with e1 e2 e3
    subst e1 e3
    have := reads_drop1 h k (cp - k) hk (by omega)
    split
    · rename_i hc
      rw [if_pos hc] at this
      exact this
    · rename_i hc
      rw [if_neg hc] at this
      rw [Option.map_some, Addr.add_lit, Nat.zero_add]
      exact this
theorem strs_one (ks : List Bs) : ∀ u ∈ strs ks, u.oneCell' = true := by
  intro u hu
  obtain ⟨k, _, rfl⟩ := List.mem_map.1 hu
  rfl
theorem nums_one (ks : List Nat) : ∀ u ∈ nums ks, u.oneCell' = true := by
  intro u hu
  obtain ⟨k, _, rfl⟩ := List.mem_map.1 hu
  rfl
theorem u_size (k : Bs) : (⟨k.toArray⟩ : ByteArray).size = k.length := by simp [ByteArray.size]
theorem at_of_who {T : Lk} (hT : T.Rising) {k : Bs} {t : Nat} (h : who T k = some t) : ∃ hlt : atL T k < T.length, T[atL T k].2 = t := by
  rw [who_at hT] at h
  split at h
  · rename_i hlt
    split at h
    · injection h with h
      exact ⟨hlt, h⟩
    · cases h
  · cases h
/-- What a call of the document's locks leaves. -/
def RefNow (w w' : World) (g : Nat) (vK vT : Value) (T : Lk) : Prop :=
  ∃ vK' vT', RefLk w' g vK' vT' T ∧ OthersKept w w' (fun k => k = g) ∧ (∀ x, vK'.ownBlock = some x → vK.ownBlock = some x ∨ w.heap.size ≤ x) ∧ ∀ x, vT'.ownBlock = some x → vT.ownBlock = some x ∨ w.heap.size ≤ x
theorem RefNow.stay {w w' : World} {g : Nat} {vK vT : Value} {T : Lk} (h : RefLk w g vK vT T) (hb : Below w.heap.size w w') : RefNow w w' g vK vT T :=
  ⟨vK, vT, h.below hb, OthersKept.of_below hb, fun _ h => .inl h, fun _ h => .inl h⟩

set_option maxHeartbeats 4000000 in
set_option maxRecDepth 100000 in
theorem rkTake (g : Nat) (vK vT : Value) (T : Lk) (tx : Nat) (k : Bs) (w : World) (hk : k.length ≤ maxLen) (h : RefLk w g vK vT T) :
    Calls Try.prog 22 #[.pointer (some ⟨g, 0, none⟩), .int .u64 (tx : Nat), .string ⟨k.toArray⟩] w fun e w' => e = .returned (.tuple #[.bool (takeL T tx k).2.1, .int .i64 (takeL T tx k).2.2]) ∧ RefNow w w' g vK vT (takeL T tx k).1 := by
  have AT := Lib.hid (rkAt g vK vT T k w h)
  have H := Lib.hid h
  have hsz := u_size k
  obtain ⟨b, cp, rfl, hcp, hcm, _, _⟩ := h.keyForm
  obtain ⟨b2, cp2, rfl, hcp2, hcm2, hbb2, hcell2⟩ := h.txForm
  have hsm := h.small
  have hris := Lib.hid h.rising
  have hgl := blk_lt h.rows.own
  unfold maxLen at hk hcm hcm2
  have HC2 := Lib.hid hcell2
  have HB2 := Lib.hid hbb2
  clear h hcell2 hbb2
  unfold takeL
  by_cases h0 : tx = 0 ∨ ¬ (1 ≤ k.length ∧ k.length ≤ 48)
  · rw [if_pos h0]
    by_cases h1 : tx = 0
    · subst h1
      clear h0
      go_enter Try.func22, Try.ntmps22
      go_wp2_with fail
      go_ret2
      exact ⟨rfl, RefNow.stay H.out (Below.refl _ _)⟩
    · have e1 : ((tx : Int) == 0) = false := by simp; omega
      by_cases h2 : k.length < 1
      · have e2 : (k.length : Int) < 1 := by omega
        clear h0 h1
        go_enter Try.func22, Try.ntmps22
        go_wp2_with fail
        go_ret2
        exact ⟨rfl, RefNow.stay H.out (Below.refl _ _)⟩
      · have h3 : 48 < k.length := by rcases h0 with h | h <;> omega
        clear h0 h1
        go_enter Try.func22, Try.ntmps22
        go_wp2_with fail
        go_ret2
        exact ⟨rfl, RefNow.stay H.out (Below.refl _ _)⟩
  rw [if_neg h0]
  have h1 : ((tx : Int) == 0) = false := by simp; omega
  have h2 : 1 ≤ k.length := by omega
  have h3 : k.length ≤ 48 := by omega
  have htx : tx ≠ 0 := by omega
  clear h0
  cases hw : who T k with
  | some t =>
    obtain ⟨hal, ht2⟩ := at_of_who hris.out hw
    obtain ⟨gt, rfl⟩ := HB2.out (by omega)
    rw [hw] at AT
    have AT2 : Hid (Calls Try.prog 59 #[.pointer (some ⟨g, 0, none⟩), .string ⟨k.toArray⟩] w fun e w' => e = .returned (.tuple #[.int .i64 (atL T k : Nat), .bool true]) ∧ Below w.heap.size w w') := AT
    have t0 := HC2.out _ hal gt rfl
    rw [ht2] at t0
    clear AT hw ht2
    generalize atL T k = i at *
    have q0 : (0 : Int) ≤ (i : Int) := by omega
    have q1 : (i : Int) < (T.length : Int) := by omega
    have T0 := Lib.hid t0
    clear t0
    by_cases hts : t = tx
    · subst hts
      simp only [if_true]
      have e2 : ((t : Int) != (t : Int)) = false := by simp
      go_enter Try.func22, Try.ntmps22
      go_wp2_with fail
      refine AT2.out.mono ?_
      rintro e w1 ⟨rfl, hb⟩
      have HX := Lib.hid hb
      have c1 := (H.out.rows.below hb).c1
      have t0 := keep_cell hb T0.out
      clear hb
      go_wp2_with fail
      go_ret2
      exact ⟨rfl, RefNow.stay H.out HX.out⟩
    · simp only [if_neg hts]
      have e2 : ((t : Int) != (tx : Int)) = true := by simp; omega
      go_enter Try.func22, Try.ntmps22
      go_wp2_with fail
      refine AT2.out.mono ?_
      rintro e w1 ⟨rfl, hb⟩
      have HX := Lib.hid hb
      have c1 := (H.out.rows.below hb).c1
      have t0 := keep_cell hb T0.out
      clear hb
      go_wp2_with fail
      go_ret2
      exact ⟨rfl, RefNow.stay H.out HX.out⟩
  | none =>
    rw [hw] at AT
    have AT2 : Hid (Calls Try.prog 59 #[.pointer (some ⟨g, 0, none⟩), .string ⟨k.toArray⟩] w fun e w' => e = .returned (.tuple #[.int .i64 (atL T k : Nat), .bool false]) ∧ Below w.heap.size w w') := AT
    clear AT HC2 HB2
    by_cases hfull : 1024 ≤ T.length
    · rw [if_pos hfull]
      go_enter Try.func22, Try.ntmps22
      go_wp2_with fail
      refine AT2.out.mono ?_
      rintro e w1 ⟨rfl, hb⟩
      have HX := Lib.hid hb
      have c0 := (H.out.rows.below hb).c0
      clear hb
      go_wp2_with fail
      go_ret2
      exact ⟨rfl, RefNow.stay H.out HX.out⟩
    · rw [if_neg hfull]
      have hRI := Lib.hid (rising_ins (t := tx) hris.out hw)
      have hLI := Lib.hid (length_ins T k tx)
      have hal := atL_le T k
      clear hw
      obtain ⟨i0, hi, hz0, hz1, hz2⟩ := info_parts (P := Try.prog) (e := 9) (z := .string ⟨#[]⟩) (size := 1) (bytes := 16) (by kernel_rfl)
      obtain ⟨j0, ji, jz0, jz1, jz2⟩ := info_parts (P := Try.prog) (e := 27) (z := .int .u64 0) (size := 1) (bytes := 8) (by kernel_rfl)
      have HI : Hid (insL T k tx = T.take (atL T k) ++ (k, tx) :: T.drop (atL T k)) := rfl
      generalize atL T k = i at *
      have q0 : (0 : Int) ≤ (i : Int) := by omega
      have q1 : (i : Int) ≤ (T.length : Int) := by omega
      have q2 : (i : Int) ≤ (cp : Int) := by omega
      have q3 : (i : Int) ≤ (cp2 : Int) := by omega
      go_enter Try.func22, Try.ntmps22
      have HKS : Hid ((insL T k tx).map (·.1) = (T.map (·.1)).take i ++ k :: (T.map (·.1)).drop i) := by show _ = _; rw [HI.out]; simp [List.map_take, List.map_drop]
      have HTS : Hid ((insL T k tx).map (·.2) = (T.map (·.2)).take i ++ tx :: (T.map (·.2)).drop i) := by show _ = _; rw [HI.out]; simp [List.map_take, List.map_drop]
      obtain ⟨ks, hks⟩ : ∃ x, x = (insL T k tx).map (·.1) := ⟨_, rfl⟩
      obtain ⟨ts, hts⟩ : ∃ x, x = (insL T k tx).map (·.2) := ⟨_, rfl⟩
      rw [← hks] at HKS
      rw [← hts] at HTS
      have EK := Lib.hid hks
      have ET := Lib.hid hts
      clear hks hts HI hal
      go_wp2_with fail
      refine AT2.out.mono ?_
      rintro e w1 ⟨rfl, hb⟩
      have HKw1 := Lib.hid (OthersKept.of_below (p := fun x => x = g) hb)
      have HSw1 := Lib.hid hb.size
      have R1 := Lib.hid (H.out.below hb).rows
      have c0 := R1.out.c0
      have hal : i ≤ T.length := by omega
      clear hb
      have DK : w1.ownsRow 0 9 1 (.slice b T.length cp) T.length (strs (T.map (·.1))) := by have := R1.out.keys; rw [List.length_map] at this; exact this
      have FK := Lib.hid (reads_front DK i (by omega))
      have GK := Lib.hid (reads_back DK i (by omega))
      clear DK
      go_wp2_with (at_builtin; refine wpList_append_any _ rfl (.tmp 49) (.tmp 55) 36 rfl w1.heap.size 9 i0 (.string ⟨#[]⟩) 1 16 Try.underlying36 hi hz0 hz1 hz2 rfl (by decide) (.slice none 0 0) (0) ([]) (by rfl) (World.ownsRow_nil _ _ _ _) (.slice b i cp) (i) ((strs (T.map (·.1))).take i) (by rfl) (FK.out) (fun u hu => strs_one _ u (List.mem_of_mem_take hu)) (by unfold maxLen; omega) (by omega) (Nat.le_refl _) ?_; intro v8 w8 ho hg; refine Aside.out ?_)
      have HO8 := Lib.hid ho
      have HB8 := Lib.hid (below_own (Below.refl _ _) (World.ownsRow_nil w1 w1.heap.size 9 1) (Nat.le_refl _) hg)
      clear ho hg
      unfold Aside
      go_wp2_with (at_builtin; refine wpList_append_any _ rfl (.tmp 57) (.tmp 59) 36 rfl w1.heap.size 9 i0 (.string ⟨#[]⟩) 1 16 Try.underlying36 hi hz0 hz1 hz2 rfl (by decide) v8 (0 + i) ([] ++ (strs (T.map (·.1))).take i) (by rfl) (HO8.out.alloc _) (.slice (some ⟨w8.heap.size, 0, none⟩) 1 1) (1) ([(.string ⟨k.toArray⟩)]) (by rfl) (.inr ⟨_, 1, rfl, rfl, one_new _ _ _⟩) (fun u hu => by rw [List.mem_singleton.1 hu]; rfl) (by unfold maxLen; omega) (by omega) (by have := HB8.out.size; simp; omega) ?_; intro v10 w10 ho hg; refine Aside.out ?_)
      have HO10 := Lib.hid ho
      have HB10 := Lib.hid (below_own (HB8.out.alloc HB8.out.size (.cells #[(.string ⟨k.toArray⟩)] 9)) (HO8.out.alloc _) (Nat.le_refl _) hg)
      clear ho hg
      have c0 := (R1.out.below HB10.out).c0
      have c1 := (R1.out.below HB10.out).c1
      unfold Aside
      go_wp2_with (at_builtin; refine wpList_append_any _ rfl (.tmp 62) (.tmp 68) 36 rfl w1.heap.size 9 i0 (.string ⟨#[]⟩) 1 16 Try.underlying36 hi hz0 hz1 hz2 rfl (by decide) v10 (0 + i + 1) ([] ++ (strs (T.map (·.1))).take i ++ [(.string ⟨k.toArray⟩)]) (by rfl) (HO10.out) (.slice (if cp = i then b else Option.map (fun x => x.add i) b) (T.length - i) (cp - i)) (T.length - i) ((strs (T.map (·.1))).drop i) (by rfl) (GK.out.below HB10.out) (fun u hu => strs_one _ u (List.mem_of_mem_drop hu)) (by unfold maxLen; omega) (by omega) (HB10.out.size) ?_; intro v11 w11 ho hg; refine Aside.out ?_)
      all_goals
        have HB11 := Lib.hid (below_own HB10.out HO10.out (Nat.le_refl _) hg)
        have hR : [] ++ (strs (T.map (·.1))).take i ++ [(.string ⟨k.toArray⟩)] ++ (strs (T.map (·.1))).drop i = strs ks := by rw [HKS.out]; simp [strs, List.map_take, List.map_drop]
        have hN : 0 + i + 1 + (T.length - i) = ks.length := by rw [HKS.out]; simp; omega
        rw [hR, hN] at ho
        have HA11 := Lib.hid (R1.out.below HB11.out)
        have f11 := blk_frozen HA11.out.own 0
        have c0 := HA11.out.c0
        have c1 := HA11.out.c1
        have HRn := Lib.hid (HA11.out.setK ho (blk_lt R1.out.own))
        have HFK : Hid (∀ x, v11.ownBlock = some x → w.heap.size ≤ x) := by
          show ∀ x, _
          intro x hx
          have := (ho.lt x hx).1
          have := HSw1.out
          omega
        obtain ⟨b11, cp11, rfl, _, _, _⟩ := own_form ho
        have HKn := Lib.hid ((HKw1.out.trans (OthersKept.of_below (p := fun _ => False) HB11.out) (fun _ _ h => absurd h id)).trans (OthersKept.of_grown (p := fun x => x = g) (g := g) (grown_set (i := 0) (u := .slice b11 ks.length cp11) (grown_refl _ g)) rfl) (fun _ _ h => h))
        clear ho hg hR hN FK GK HO8 HB8
        clear HO10 HB10
        generalize ks.length = NK at *
        unfold Aside
        go_wp2_with (at_builtin; refine Aside.out ?_)
        clear c0 c1 f11
        generalize w11.setCell ⟨g, 0, none⟩ (.slice b11 NK cp11) = w2 at *
        have R2 := Lib.hid HRn.out
        have HKw2 := Lib.hid HKn.out
        have HSw2 := Lib.hid HKn.out.size
        have c1 := R2.out.c1
        generalize b11 = bK, cp11 = cpK at *
        clear HA11 HB11 HRn HKn
        unfold Aside
        have DT : w2.ownsRow 0 27 1 (.slice b2 T.length cp2) T.length (nums (T.map (·.2))) := by have := R2.out.txs; rw [List.length_map] at this; exact this
        have FT := Lib.hid (reads_front DT i (by omega))
        have GT := Lib.hid (reads_back DT i (by omega))
        clear DT
        go_wp2_with (at_builtin; refine wpList_append_any _ rfl (.tmp 72) (.tmp 78) 35 rfl w2.heap.size 27 j0 (.int .u64 0) 1 8 Try.underlying35 ji jz0 jz1 jz2 rfl (by decide) (.slice none 0 0) (0) ([]) (by rfl) (World.ownsRow_nil _ _ _ _) (.slice b2 i cp2) (i) ((nums (T.map (·.2))).take i) (by rfl) (FT.out) (fun u hu => nums_one _ u (List.mem_of_mem_take hu)) (by unfold maxLen; omega) (by omega) (Nat.le_refl _) ?_; intro v8 w8 ho hg; refine Aside.out ?_)
        have HO8 := Lib.hid ho
        have HB8 := Lib.hid (below_own (Below.refl _ _) (World.ownsRow_nil w2 w2.heap.size 27 1) (Nat.le_refl _) hg)
        clear ho hg
        unfold Aside
        go_wp2_with (at_builtin; refine wpList_append_any _ rfl (.tmp 80) (.tmp 82) 35 rfl w2.heap.size 27 j0 (.int .u64 0) 1 8 Try.underlying35 ji jz0 jz1 jz2 rfl (by decide) v8 (0 + i) ([] ++ (nums (T.map (·.2))).take i) (by rfl) (HO8.out.alloc _) (.slice (some ⟨w8.heap.size, 0, none⟩) 1 1) (1) ([(.int .u64 (tx : Nat))]) (by rfl) (.inr ⟨_, 1, rfl, rfl, one_new _ _ _⟩) (fun u hu => by rw [List.mem_singleton.1 hu]; rfl) (by unfold maxLen; omega) (by omega) (by have := HB8.out.size; simp; omega) ?_; intro v10 w10 ho hg; refine Aside.out ?_)
        have HO10 := Lib.hid ho
        have HB10 := Lib.hid (below_own (HB8.out.alloc HB8.out.size (.cells #[(.int .u64 (tx : Nat))] 27)) (HO8.out.alloc _) (Nat.le_refl _) hg)
        clear ho hg
        have c0 := (R2.out.below HB10.out).c0
        have c1 := (R2.out.below HB10.out).c1
        unfold Aside
        go_wp2_with (at_builtin; refine wpList_append_any _ rfl (.tmp 85) (.tmp 91) 35 rfl w2.heap.size 27 j0 (.int .u64 0) 1 8 Try.underlying35 ji jz0 jz1 jz2 rfl (by decide) v10 (0 + i + 1) ([] ++ (nums (T.map (·.2))).take i ++ [(.int .u64 (tx : Nat))]) (by rfl) (HO10.out) (.slice (if cp2 = i then b2 else Option.map (fun x => x.add i) b2) (T.length - i) (cp2 - i)) (T.length - i) ((nums (T.map (·.2))).drop i) (by rfl) (GT.out.below HB10.out) (fun u hu => nums_one _ u (List.mem_of_mem_drop hu)) (by unfold maxLen; omega) (by omega) (HB10.out.size) ?_; intro v11 w11 ho hg; refine Aside.out ?_)
        all_goals
          have HB11 := Lib.hid (below_own HB10.out HO10.out (Nat.le_refl _) hg)
          have hR : [] ++ (nums (T.map (·.2))).take i ++ [(.int .u64 (tx : Nat))] ++ (nums (T.map (·.2))).drop i = nums ts := by rw [HTS.out]; simp [nums, List.map_take, List.map_drop]
          have hN : 0 + i + 1 + (T.length - i) = ts.length := by rw [HTS.out]; simp; omega
          rw [hR, hN] at ho
          have HA11 := Lib.hid (R2.out.below HB11.out)
          have f11 := blk_frozen HA11.out.own 1
          have c0 := HA11.out.c0
          have c1 := HA11.out.c1
          have HRn := Lib.hid (HA11.out.setT ho (blk_lt R2.out.own))
          have HFT : Hid (∀ x, v11.ownBlock = some x → w.heap.size ≤ x) := by
            show ∀ x, _
            intro x hx
            have := (ho.lt x hx).1
            have := HSw2.out
            omega
          obtain ⟨b11, cp11, rfl, _, _, _⟩ := own_form ho
          have HKn := Lib.hid ((HKw2.out.trans (OthersKept.of_below (p := fun _ => False) HB11.out) (fun _ _ h => absurd h id)).trans (OthersKept.of_grown (p := fun x => x = g) (g := g) (grown_set (i := 1) (u := .slice b11 ts.length cp11) (grown_refl _ g)) rfl) (fun _ _ h => h))
          clear ho hg hR hN FT GT HO8 HB8
          clear HO10 HB10
          generalize ts.length = NT at *
          unfold Aside
          go_wp2_with fail
          go_ret2
          exact ⟨rfl, _, _, ⟨by rw [← EK.out, ← ET.out]; exact HRn.out, hRI.out, by rw [hLI.out]; omega⟩, HKn.out, fun x hx => .inr (HFK.out x hx), fun x hx => .inr (HFT.out x hx)⟩

end Go.Proofs.Ytoeaakadpillnaa
