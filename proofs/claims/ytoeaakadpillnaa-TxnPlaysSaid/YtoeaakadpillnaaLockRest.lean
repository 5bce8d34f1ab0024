/- The locks: Who, Len, Let, Drop, and what none answers. -/
import Derived.Test.YtoeaakadpillnaaRows
import Derived.Test.YtoeaakadpillnaaLockHeld
import Derived.Test.YtoeaakadpillnaaLockWalks
import Derived.Test.YtoeaakadpillnaaShelf
import Derived.Test.YtoeaakadpillnaaAppAny
import Derived.Test.YtoeaakadpillnaaKept
import Derived.Sort.OwnSorted
import Derived.Maps.RangeWalk
import Derived.Sort.KeysCollected
import Derived.WalkKit
import Derived.WalkLawsBesides
import Derived.WalkSpells
import Derived.LoopTactic
import Derived.WalkMore
import Derived.LoopN
import Derived.Laws.BitsAllLaws
import Derived.Laws.IdiomStrings
import Derived.BigQuiet
import Derived.Deep.QuietTactic
import Derived.Deep.DeepCutAuto
import Derived.Deep.RegionHeld3
import Derived.Deep.DrawnRows
import Derived.Lib.Hide
import Derived.Outline
import Derived.Deep.DeepMust
import Derived.Handy
namespace Go.Proofs.Ytoeaakadpillnaa
open Go.RowKit
set_option linter.unusedVariables false
set_option linter.unusedSimpArgs false

theorem lkWho (w : World) {g m : Nat} {T : Lk} (s : ByteArray) (hs : s.size ≤ maxLen) (h : LkAt w g m T) :
    Calls Try.prog 17 #[.pointer (some ⟨g, 0, none⟩), .string s] w fun e w' => e = .returned (.int .u64 ((who T s.data.toList).getD 0 : Nat)) ∧ w = w' := by
  have M := Lib.hid (lkMade w h)
  have c0 := h.c0
  have hl := h.look1 s hs
  clear h
  generalize ((who T s.data.toList).getD 0) = r at *
  go_enter Try.func17, Try.ntmps17
  go_wp2_with fail
  refine M.out.mono ?_
  rintro e w1 ⟨rfl, rfl⟩
  go_wp2_with fail
  go_ret
  exact ⟨rfl, rfl⟩
theorem lkLen (w : World) {g m : Nat} {T : Lk} (h : LkAt w g m T) :
    Calls Try.prog 18 #[.pointer (some ⟨g, 0, none⟩)] w fun e w' => e = .returned (.int .i64 (T.length : Nat)) ∧ w = w' := by
  have M := Lib.hid (lkMade w h)
  have c0 := h.c0
  have hl := h.len
  clear h
  go_enter Try.func18, Try.ntmps18
  go_wp2_with fail
  refine M.out.mono ?_
  rintro e w1 ⟨rfl, rfl⟩
  go_wp2_with fail
  go_ret
  exact ⟨rfl, rfl⟩
/-- What Let answers, and what it leaves. -/
def letL (T : Lk) (tx : Nat) (k : Bs) : Lk × Int := if who T k = some tx then (cutL T k, 0) else (T, 3)
theorem LkAt.cut {w w' : World} {g m : Nat} {T : Lk} {D : DataW Unit} {n : Nat} (h : LkAt w g m T) (ho : w.ownsMap Try.prog 9 (plainElem Try.prog 27) m T.length D) (hD : LockD D T) (k : Bs) (h2 : w'.ownsMap Try.prog 9 (plainElem Try.prog 27) m n (D.del (.string k))) (hg : w.grownBy w' (some m)) : LkAt w' g m (cutL T k) := by
  have hD2 := hD.del (ho.tidy lk_key) h.rising k
  refine ⟨(hg.block g h.lt.1 (by simp; exact h.ne)).trans h.own, ⟨_, ?_, hD2⟩, cut_rising h.rising k, ?_, fun p hp => h.fine p (List.mem_filter.1 hp).1⟩
  · have := tight h2
    rw [hD2.size] at this
    exact this
  · exact Nat.le_trans (List.length_filter_le _ _) h.small

set_option maxRecDepth 100000 in
set_option maxHeartbeats 1000000 in
theorem lkLet (w : World) {g m : Nat} {T : Lk} (tx : Nat) (s : ByteArray) (hs : s.size ≤ maxLen) (h : LkAt w g m T) :
    Calls Try.prog 23 #[.pointer (some ⟨g, 0, none⟩), .int .u64 tx, .string s] w fun e w' => e = .returned (.int .i64 (letL T tx s.data.toList).2) ∧ LkAt w' g m (letL T tx s.data.toList).1 ∧ w.grownBy w' (some m) := by
  have M := Lib.hid (lkMade w h)
  have c0 := h.c0
  have hl := h.look s hs
  have H := Lib.hid h
  obtain ⟨D, ho, hD⟩ := h.ex
  have HO := Lib.hid ho
  have HD := Lib.hid hD
  have HKY := Lib.hid (str_keyOf s hs)
  clear h ho hD
  unfold letL
  cases hw : who T s.data.toList with
  | none =>
    rw [hw] at hl
    rw [if_neg (by simp)]
    clear hw
    go_enter Try.func23, Try.ntmps23
    go_wp2_with fail
    refine M.out.mono ?_
    rintro e w1 ⟨rfl, rfl⟩
    go_wp2_with fail
    go_ret
    exact ⟨rfl, H.out, grown_refl _ _⟩
  | some t =>
    rw [hw] at hl
    clear hw
    by_cases ht : t = tx
    · subst ht
      rw [if_pos rfl]
      have e : ((t : Int) != (t : Int)) = false := by simp
      go_enter Try.func23, Try.ntmps23
      go_wp2_with fail
      refine M.out.mono ?_
      rintro e w1 ⟨rfl, rfl⟩
      go_wp2_with (at_delete; refine wpList_delete_own _ rfl _ _ 106 9 rfl 27 lk_key Try.underlying106 _ m T.length D rfl HO.out _ _ rfl HKY.out ?_; intro w1 hown1 hturn1)
      go_ret
      exact ⟨rfl, H.out.cut HO.out HD.out _ hown1 hturn1.grown, hturn1.grown⟩
    · rw [if_neg (by simpa using ht)]
      have e : ((t : Int) != (tx : Int)) = true := by simp; omega
      go_enter Try.func23, Try.ntmps23
      go_wp2_with fail
      refine M.out.mono ?_
      rintro e w1 ⟨rfl, rfl⟩
      go_wp2_with fail
      go_ret
      exact ⟨rfl, H.out, grown_refl _ _⟩

/-- The first of some keys are gone. -/
def dropsL (T : Lk) (ks : List Bs) : Lk := ks.foldl cutL T
theorem drops_eq (T : Lk) : ∀ ks : List Bs, dropsL T ks = T.filter fun p => !(ks.contains p.1) := by
  intro ks
  induction ks generalizing T with
  | nil => exact (List.filter_eq_self.2 (by simp)).symm
  | cons k r ih =>
    show dropsL (cutL T k) r = _
    rw [ih]
    unfold cutL
    rw [List.filter_filter]
    apply List.filter_congr
    intro p _
    rw [List.contains_cons]
    cases p.1 == k <;> simp
theorem drops_held {T : Lk} (hT : T.Rising) (tx : Nat) : dropsL T (held T tx) = dropL T tx := by
  rw [drops_eq]
  unfold dropL
  apply List.filter_congr
  intro p hp
  congr 1
  rw [Bool.eq_iff_iff, List.contains_iff_mem, held_mem hT]
  have : who T p.1 = some p.2 := (mem_who hT).1 hp
  rw [this]
  simp
theorem drops_take (T : Lk) (ks : List Bs) (i : Nat) (h : i < ks.length) : dropsL T (ks.take (i + 1)) = cutL (dropsL T (ks.take i)) ks[i] := by
  unfold dropsL
  rw [List.take_succ_eq_append_getElem h, List.foldl_append]
  rfl
theorem held_fine {w : World} {g m : Nat} {T : Lk} (h : LkAt w g m T) {tx : Nat} {k : Bs} (hk : k ∈ held T tx) : k.length ≤ 48 :=
  (h.fine (k, tx) ((mem_who h.rising).2 ((held_mem h.rising).1 hk))).1

set_option maxRecDepth 100000 in
set_option maxHeartbeats 1000000 in
theorem lkDrop (w : World) {g m : Nat} {T : Lk} (tx : Nat) (h : LkAt w g m T) :
    Calls Try.prog 21 #[.pointer (some ⟨g, 0, none⟩), .int .u64 tx] w fun e w' => e = .returned (.int .i64 ((held T tx).length : Nat)) ∧ LkAt w' g m (dropL T tx) ∧ OthersKept w w' (fun k => k = m) := by
  have HD := Lib.hid (lkHeld w tx h)
  have H := Lib.hid h
  have hlt := h.lt
  have hr := h.rising
  have hhl : (held T tx).length ≤ 1024 := by have := drop_len T tx; have := h.small; omega
  clear h
  go_enter Try.func21, Try.ntmps21
  go_wp2_with fail
  refine HD.out.mono ?_
  rintro e w1 ⟨v, rfl, hO, hB⟩
  have HO := Lib.hid hO
  have HB := Lib.hid hB
  have HL1 := Lib.hid (H.out.below hB)
  clear hO hB HD
  obtain ⟨b, cp, rfl, hcp, hcm, hbb⟩ := own_form HO.out
  have Hbb := Lib.hid hbb
  have HFi := Lib.hid (fun k hk => held_fine (k := k) (tx := tx) H.out hk)
  have hEnd := drops_held hr tx
  have hTake := drops_take T (held T tx)
  have HE := Lib.hid hEnd
  have HT := Lib.hid hTake
  unfold maxLen at hcm
  clear hbb hEnd hTake hr
  generalize hks : held T tx = ks at *
  have HKS := Lib.hid hks
  clear hks
  go_wp2_with fail
  go_loopw [13] (fun s13 wr => ∃ i : Nat, i ≤ ks.length ∧ s13 = .int .i64 i ∧ LkAt wr g m (dropsL T (ks.take i)) ∧ wr.ownsRow w.heap.size 9 1 (.slice b ks.length cp) ks.length (strs ks) ∧ OthersKept w wr (fun k => k = m)) (fun i _ => ks.length - (intOf i).toNat)
  case atStart => exact ⟨0, Nat.zero_le _, rfl, by rw [List.take_zero]; exact HL1.out, HO.out, OthersKept.of_below HB.out⟩
  case round =>
    obtain ⟨i, hi, rfl, hL, hO, hK⟩ := hrel
    have HL := Lib.hid hL
    have HO2 := Lib.hid hO
    have HK := Lib.hid hK
    clear hL hO hK HL1 HO
    by_cases hc : i < ks.length
    · obtain ⟨gv, rfl, hgv⟩ := Hbb.out (by omega)
      have t0 := own_cell HO2.out i (.string ⟨(ks[i]).toArray⟩) (by unfold strs; rw [List.getElem?_map, List.getElem?_eq_getElem hc]; rfl)
      have c0 := HL.out.c0
      obtain ⟨D, ho, hD⟩ := HL.out.ex
      have HOw := Lib.hid ho
      have HDD := Lib.hid hD
      have hkl := HFi.out _ (List.getElem_mem hc)
      have HKY : Hid (keyOf Try.prog 9 (.string ⟨(ks[i]).toArray⟩) = some (.string ks[i])) := str_keyOf ⟨(ks[i]).toArray⟩ (by simp [ByteArray.size]; unfold maxLen; omega)
      have HTi := Lib.hid (HT.out i hc)
      clear ho hD hkl
      generalize ks[i] = kk at *
      have q0 : (0 : Int) ≤ (i : Int) := by omega
      have q1 : (i : Int) < (ks.length : Int) := by omega
      go_wp2_with (at_delete; refine wpList_delete_own _ rfl _ _ 106 9 rfl 27 lk_key Try.underlying106 _ m _ D rfl HOw.out _ _ rfl HKY.out ?_; intro w2 hown2 hturn2)
      have HLn := Lib.hid (HL.out.cut HOw.out HDD.out kk hown2 hturn2.grown)
      have HOn := Lib.hid (own_far HO2.out hturn2.grown hlt.2)
      have HKn := Lib.hid (HK.out.trans (OthersKept.of_grown (p := fun k => k = m) hturn2.grown rfl) (fun _ _ h => h))
      clear hown2 hturn2
      go_roundw
      case rel => exact ⟨i + 1, by omega, by go_num, by rw [HTi.out]; exact HLn.out, HOn.out, HKn.out⟩
      case measure => simp [intOf]; omega
    · obtain rfl : i = ks.length := by omega
      have hL2 := HL.out
      rw [List.take_of_length_le (Nat.le_refl _), HE.out] at hL2
      have HL3 := Lib.hid hL2
      clear hL2
      go_wp2_with fail
      go_ret
      exact ⟨ret_int (by rw [HKS.out]), HL3.out, HK.out⟩

theorem lkNil_Take (tx : Nat) (s : ByteArray) (w : World) : Calls Try.prog 19 #[.pointer none, .int .u64 tx, .string s] w fun e w' => e = .returned (.tuple #[.bool false, .int .i64 1]) ∧ w = w' := by
  go_enter Try.func19, Try.ntmps19
  go_wp2_with fail
  refine (lkMade_nil _).mono ?_
  rintro e w1 ⟨rfl, rfl⟩
  go_wp2_with fail
  go_ret2
  exact ⟨rfl, rfl⟩
theorem lkNil_Let (tx : Nat) (s : ByteArray) (w : World) : Calls Try.prog 23 #[.pointer none, .int .u64 tx, .string s] w fun e w' => e = .returned (.int .i64 1) ∧ w = w' := by
  go_enter Try.func23, Try.ntmps23
  go_wp2_with fail
  refine (lkMade_nil _).mono ?_
  rintro e w1 ⟨rfl, rfl⟩
  go_wp2_with fail
  go_ret
  exact ⟨rfl, rfl⟩
theorem lkNil_Who (s : ByteArray) (w : World) : Calls Try.prog 17 #[.pointer none, .string s] w fun e w' => e = .returned (.int .u64 0) ∧ w = w' := by
  go_enter Try.func17, Try.ntmps17
  go_wp2_with fail
  refine (lkMade_nil _).mono ?_
  rintro e w1 ⟨rfl, rfl⟩
  go_wp2_with fail
  go_ret
  exact ⟨rfl, rfl⟩
theorem lkNil_Len (w : World) : Calls Try.prog 18 #[.pointer none] w fun e w' => e = .returned (.int .i64 0) ∧ w = w' := by
  go_enter Try.func18, Try.ntmps18
  go_wp2_with fail
  refine (lkMade_nil _).mono ?_
  rintro e w1 ⟨rfl, rfl⟩
  go_wp2_with fail
  go_ret
  exact ⟨rfl, rfl⟩
theorem lkNil_Held (tx : Nat) (w : World) : Calls Try.prog 20 #[.pointer none, .int .u64 tx] w fun e w' => e = .returned (.slice none 0 0) ∧ w = w' := by
  go_enter Try.func20, Try.ntmps20
  go_wp2_with fail
  refine (lkMade_nil _).mono ?_
  rintro e w1 ⟨rfl, rfl⟩
  go_wp2_with fail
  go_ret
  exact ⟨rfl, rfl⟩
set_option maxRecDepth 100000 in
theorem lkNil_Drop (tx : Nat) (w : World) : Calls Try.prog 21 #[.pointer none, .int .u64 tx] w fun e w' => e = .returned (.int .i64 0) ∧ w = w' := by
  go_enter Try.func21, Try.ntmps21
  go_wp2_with fail
  refine (lkNil_Held _ _).mono ?_
  rintro e w1 ⟨rfl, rfl⟩
  go_wp2_with fail
  refine wp_loop_rounds 1 ?_
  rw [rounds_succ]
  go_wp2_with fail
  go_ret
  exact ⟨rfl, rfl⟩

end Go.Proofs.Ytoeaakadpillnaa
