/- chapter 08: a row's key by the document; chapter 08: the keys of a node's rows by the document -/
import Derived.Test.YtjcfnfpilladfaaRows
import Derived.Test.YtjcfnfpilladfaaNodeKeysA
import Derived.Test.YtjcfnfpilladfaaRefDecode
import Derived.WalkKit
import Derived.WalkLawsBesides
import Derived.WalkSpells
import Derived.LoopTactic
import Derived.WalkMore
import Derived.LoopN
import Derived.Laws.BitsAllLaws
import Derived.Laws.IdiomStrings
import Derived.BigQuiet
import Derived.Deep.QuietTactic
import Derived.Deep.DeepCutAuto
import Derived.Deep.RegionHeld3
import Derived.Deep.DrawnRows
import Derived.Lib.Hide
import Derived.Outline
import Derived.Deep.DeepMust
import Derived.Handy
namespace Go.Proofs.Ytjcfnfpilladfaa
open Go.RowKit
set_option linter.unusedVariables false
set_option linter.unusedSimpArgs false

/-- A key, and whether there is one, as a value. -/
def keyW : Option (List UInt8) → Value
  | some k => .tuple #[.string ⟨k.toArray⟩, .bool true]
  | none => .tuple #[.string ⟨#[]⟩, .bool false]

set_option maxHeartbeats 2000000 in
set_option maxRecDepth 100000 in
theorem refKeyOf_leaf (s : ByteArray) (w : World) (hs : s.size ≤ 1000000) :
    Calls Try.prog 83 #[.int .u8 (1 : Nat), .string s] w fun e w' => e = .returned (keyW (keyB 1 s.data.toList)) ∧ Below w.heap.size w w' := by
  have c := fun W => refDecode_any s W hs
  cases hd : decOk s.data.toList with
  | true =>
    have e1 : decV s.data.toList = .tuple #[.agg #[.string ⟨(dK s.data.toList).toArray⟩, .bool (decide (0 < rdNum s.data.toList 0 1)), .int .u64 (rdNum s.data.toList 1 8), .int .u32 (rdNum s.data.toList 9 4), .int .u16 (rdNum s.data.toList 13 2), .string ⟨(dV s.data.toList).toArray⟩, .int .i64 (dPad s.data.toList)], .int .i64 0] := by unfold decV; rw [if_pos hd]
    have e2 : Hid (keyB 1 s.data.toList = some (dK s.data.toList)) := by show _ = _; unfold keyB; rw [if_pos rfl, if_pos hd]
    simp only [e1] at c
    clear e1 hd
    have C := Lib.hid c
    clear c
    rw [e2.out]
    generalize dK s.data.toList = k at *
    generalize rdNum s.data.toList 1 8 = n1 at *
    generalize rdNum s.data.toList 9 4 = n2 at *
    generalize rdNum s.data.toList 13 2 = n3 at *
    generalize dV s.data.toList = v at *
    generalize dPad s.data.toList = d at *
    generalize decide (0 < rdNum s.data.toList 0 1) = b at *
    go_enter Try.func83, Try.ntmps83
    go_wp2_with fail
    refine (C.out _).mono ?_
    rintro e w1 ⟨rfl, hb1⟩
    go_wp2_with fail
    go_ret2
    exact ⟨rfl, hb1.alloc hb1.size _⟩
  | false =>
    have e1 : decV s.data.toList = .tuple #[.agg #[.string ⟨#[]⟩, .bool false, .int .u64 0, .int .u32 0, .int .u16 0, .string ⟨#[]⟩, .int .i64 0], .int .i64 7] := by unfold decV; rw [if_neg (by rw [hd]; simp)]
    have e2 : Hid (keyB 1 s.data.toList = none) := by show _ = _; unfold keyB; rw [if_pos rfl, if_neg (by rw [hd]; simp)]
    simp only [e1] at c
    clear e1 hd
    have C := Lib.hid c
    clear c
    rw [e2.out]
    go_enter Try.func83, Try.ntmps83
    go_wp2_with fail
    refine (C.out _).mono ?_
    rintro e w1 ⟨rfl, hb1⟩
    go_wp2_with fail
    go_ret2
    exact ⟨rfl, hb1.alloc hb1.size _⟩

set_option maxHeartbeats 2000000 in
set_option maxRecDepth 100000 in
theorem refKeyOf_inner (s : ByteArray) (w : World) (hs : s.size ≤ 1000000) :
    Calls Try.prog 83 #[.int .u8 (2 : Nat), .string s] w fun e w' => e = .returned (keyW (keyB 2 s.data.toList)) ∧ Below w.heap.size w w' := by
  have c := fun W => refEntDecode_any s W hs
  cases hd : decEntOk s.data.toList with
  | true =>
    have e1 : decEntV s.data.toList = .tuple #[.agg #[.string ⟨(s.data.toList.drop 4).toArray⟩, .int .u32 (rdNum s.data.toList 0 4)], .int .i64 0] := by unfold decEntV; rw [if_pos hd]
    have e2 : Hid (keyB 2 s.data.toList = some (s.data.toList.drop 4)) := by show _ = _; unfold keyB; rw [if_neg (by decide), if_pos hd]
    simp only [e1] at c
    clear e1 hd
    have C := Lib.hid c
    clear c
    rw [e2.out]
    generalize s.data.toList.drop 4 = k at *
    generalize rdNum s.data.toList 0 4 = n1 at *
    go_enter Try.func83, Try.ntmps83
    go_wp2_with fail
    refine (C.out _).mono ?_
    rintro e w1 ⟨rfl, hb1⟩
    go_wp2_with fail
    go_ret2
    exact ⟨rfl, hb1.alloc hb1.size _⟩
  | false =>
    have e1 : decEntV s.data.toList = .tuple #[.agg #[.string ⟨#[]⟩, .int .u32 0], .int .i64 7] := by unfold decEntV; rw [if_neg (by rw [hd]; simp)]
    have e2 : Hid (keyB 2 s.data.toList = none) := by show _ = _; unfold keyB; rw [if_neg (by decide), if_neg (by rw [hd]; simp)]
    simp only [e1] at c
    clear e1 hd
    have C := Lib.hid c
    clear c
    rw [e2.out]
    go_enter Try.func83, Try.ntmps83
    go_wp2_with fail
    refine (C.out _).mono ?_
    rintro e w1 ⟨rfl, hb1⟩
    go_wp2_with fail
    go_ret2
    exact ⟨rfl, hb1.alloc hb1.size _⟩

theorem refKeyOf_any (kind : Nat) (s : ByteArray) (w : World) (hk : kind = 1 ∨ kind = 2) (hs : s.size ≤ 1000000) :
    Calls Try.prog 83 #[.int .u8 kind, .string s] w fun e w' => e = .returned (keyW (keyB kind s.data.toList)) ∧ Below w.heap.size w w' := by
  rcases hk with rfl | rfl
  · exact refKeyOf_leaf s w hs
  · exact refKeyOf_inner s w hs

end Go.Proofs.Ytjcfnfpilladfaa

namespace Go.Proofs.Ytjcfnfpilladfaa
open Go.RowKit
set_option linter.unusedVariables false
set_option linter.unusedSimpArgs false

open Go.Lib (compareBytes)
theorem refCompare_below (a b : ByteArray) (w : World) (ha : a.size ≤ maxLen) (hb : b.size ≤ maxLen) :
    Calls Try.prog 52 #[.string a, .string b] w fun e w' => e = .returned (.int .i64 (Lib.compareBytes a.data.toList b.data.toList)) ∧ Below w.heap.size w w' :=
  (refCompare_any a b w ha hb).mono fun _ _ ⟨he, m, hm⟩ => ⟨he, by rw [hm]; exact ⟨rfl, rfl, rfl, Nat.le_refl _, fun _ _ => rfl⟩⟩
theorem keyB_len {kind : Nat} {r k : List UInt8} (h : keyB kind r = some k) : k.length ≤ r.length := by
  unfold keyB at h
  split at h
  · split at h
    · injection h with h
      rw [← h]
      unfold dK rdText
      split
      · simp
        omega
      · simp
    · cases h
  · split at h
    · injection h with h
      rw [← h, List.length_drop]
      omega
    · cases h
set_option maxHeartbeats 4000000 in
set_option maxRecDepth 100000 in
theorem refKeys_any (p : Pg) (sv : Value) (w : World) (hp : p.wf) (ht : TextsAt w sv p.rows) (hb : weightB p.rows ≤ 1000000) :
    Calls Try.prog 80 #[pgV p sv] w (KeysPost w (keysB p)) := by
  obtain ⟨kind, level, id, lsn, next, rows⟩ := p
  obtain ⟨A, cp, rfl, h2, h3, h4, h5⟩ := ht
  simp only at *
  obtain ⟨n, hn⟩ : ∃ n, n = rows.length := ⟨_, rfl⟩
  rw [← hn] at h2
  unfold pgV
  simp only [← hn]
  unfold maxLen at h3
  have H5 := Lib.hid h5
  have HN := Lib.hid hn
  have HK : Hid (keysB ⟨kind, level, id, lsn, next, rows⟩ = if nodeShape kind level n then keysR kind none rows else none) := by show _ = _; rw [hn]; rfl
  have hnb : n ≤ 1000000 := by have := weightB_length rows; omega
  have HWt : Hid (∀ i (h : i < rows.length), rows[i].length ≤ 1000000) := fun i h => by have := weightB_mem (List.getElem_mem h); omega
  obtain ⟨p1, p2, p3, p4, p5⟩ := hp
  simp only at p1 p2 p3 p4 p5
  clear h5 h4 hn hb
  generalize keysB ⟨kind, level, id, lsn, next, rows⟩ = K at HK ⊢
  have HB0 := Lib.hid ((Below.refl w.heap.size w).alloc (Nat.le_refl _) (.cells #[.int .u8 kind, .int .u8 level, .int .u32 id, .int .u64 lsn, .int .u32 next, .slice A n cp] 45))
  have c0 : (w.alloc (.cells #[.int .u8 kind, .int .u8 level, .int .u32 id, .int .u64 lsn, .int .u32 next, .slice A n cp] 45)).cell? ⟨w.heap.size, 0, none⟩ = some (.int .u8 kind) := by go_simp
  have HC0 := Lib.hid c0
  have c5 : (w.alloc (.cells #[.int .u8 kind, .int .u8 level, .int .u32 id, .int .u64 lsn, .int .u32 next, .slice A n cp] 45)).cell? ⟨w.heap.size, 5, none⟩ = some (.slice A n cp) := by go_simp
  have HC5 := Lib.hid c5
  have HZ0 : Hid ((w.alloc (.cells #[.int .u8 kind, .int .u8 level, .int .u32 id, .int .u64 lsn, .int .u32 next, .slice A n cp] 45)).heap.size = w.heap.size + 1) := by show _ = _; simp
  clear c0 c5
  have hgood : ((kind = 1 ∧ level = 0) ∨ (kind = 2 ∧ 1 ≤ level ∧ 1 ≤ n)) ∨ nodeShape kind level n = false := by
    cases hs : nodeShape kind level n with
    | false => exact .inr rfl
    | true =>
      unfold nodeShape at hs
      simp only [Bool.or_eq_true, Bool.and_eq_true, decide_eq_true_eq] at hs
      exact .inl hs
  rcases hgood with hgood | hbad
  · have hKK : Hid (K = keysR kind none rows) := by
      show _ = _
      rw [HK.out, if_pos]
      unfold nodeShape
      simp only [Bool.or_eq_true, Bool.and_eq_true, decide_eq_true_eq]
      exact hgood
    have hk12 : kind = 1 ∨ kind = 2 := by omega
    have CK := Lib.hid fun (s : ByteArray) W hs => refKeyOf_any kind s W hk12 hs
    obtain ⟨i0, hi, hz0, hz1, hz2⟩ := info_parts Try.infoStr
    have HI := Lib.hid hi
    have HI0 := Lib.hid hz0
    have HI1 := Lib.hid hz1
    have HI2 := Lib.hid hz2
    clear hi hz0 hz1 hz2 HK hk12
    rcases hgood with ⟨hk, hl⟩ | ⟨hk, hl, hn1⟩
    · have a1 : ((kind : Int) == 1) = true := by simp; omega
      have a2 : ((kind : Int) != 1) = false := by simp; omega
      have a3 : ((kind : Int) == 2) = false := by simp; omega
      have a4 : decide (0 < level) = false := by simp; omega
      have a5 : ¬ (0 : Int) < (level : Int) := by omega
      clear hk hl
      go_enter Try.func80, Try.ntmps80
      go_wp2_with fail
      go_loopw [4, 5] (fun s4 s5 wr => ∃ (i : Nat) (ks : List (List UInt8)), s5 = .int .i64 i ∧ i ≤ n ∧ ks.length = i ∧ wr.ownsRow (w.heap.size + 1) 9 1 s4 i (strs ks) ∧ Hid (Below (w.heap.size + 1) (w.alloc (.cells #[.int .u8 kind, .int .u8 level, .int .u32 id, .int .u64 lsn, .int .u32 next, .slice A n cp] 45)) wr) ∧ Hid (K = keysLeft kind ks rows i) ∧ Hid (∀ q ∈ ks, q.length ≤ 1000000)) (fun _ v _ => n - (intOf v).toNat)
      case atStart => exact ⟨0, [], rfl, Nat.zero_le _, rfl, World.ownsRow_nil _ _ _ _, Lib.hid (Below.refl _ _), Lib.hid (by rw [hKK.out, keysLeft_start]), Lib.hid (fun q hq => by cases hq)⟩
      case round =>
        obtain ⟨i, ks, rfl, hi, hks, hown, hB, hL, hSM⟩ := hrel
        have HO := Lib.hid hown
        have HKS := Lib.hid hks
        clear hown hks
        have HBw : Hid (Below w.heap.size w wr) := Lib.hid (HB0.out.trans (hB.out.mono (by rw [← HZ0.out]; exact Nat.le_of_lt (by have := HZ0.out; omega))))
        have c2 := (hB.out.cell (p := ⟨w.heap.size, 0, none⟩) (Nat.lt_succ_self _)).trans HC0.out
        have c3 := (hB.out.cell (p := ⟨w.heap.size, 5, none⟩) (Nat.lt_succ_self _)).trans HC5.out
        by_cases hc : i < n
        · have hci : (i : Int) < (n : Int) := by omega
          have hia : i < rows.length := by rw [← HN.out]; exact hc
          obtain ⟨b0, o0, rfl, hb0, hcell⟩ := H5.out (by omega)
          have c1 := keep_cell HBw.out (hcell i hia)
          have q1 : (0 : Int) ≤ (i : Int) := by omega
          have HR := Lib.hid (HWt.out i hia)
          have HN1 := Lib.hid (keysLeft_none kind ks rows i hia)
          have HN2 := Lib.hid (keysLeft_fall kind ks rows i hia)
          have HN3 := Lib.hid (keysLeft_step kind ks rows i hia)
          clear hcell
          generalize rows[i] = r at *
          have CKV := Lib.hid fun W => CK.out ⟨r.toArray⟩ W (by simpa [ByteArray.size] using HR.out)
          rw [show (⟨r.toArray⟩ : ByteArray).data.toList = r from rfl] at CKV
          cases hk : keyB kind r with
          | none =>
            have HE := Lib.hid (hL.out.trans (HN1.out hk))
            rw [hk] at CKV
            unfold keyW at CKV
            clear hk
            go_wp2_with fail
            have e0 := ext_cell c1 (cell_lt c1)
            have e1 := ext_cell c2 (cell_lt c2)
            have e2 := ext_cell c3 (cell_lt c3)
            refine wp_region_ext wr.heap.size (by kernel_rfl) (by kernel_rfl) ?_
            repeat (go_big_quiet_step ((go_at_call 83; exact ext_call _ (Nat.le_refl _) (CKV.out _))))
            refine wpQuiet_nil ?_
            rintro _ ⟨x, rfl⟩
            have hb1 := x.below
            generalize x.val = w1 at hb1 ⊢
            have HO1 := Lib.hid (own_below HO.out hb1)
            have HB1 := Lib.hid (hB.out.trans (hb1.mono (by have := hB.out.size; have := HZ0.out; omega)))
            have HBw1 := Lib.hid (below_then HBw.out hb1)
            clear hb1 e0 e1 e2
            go_wp2_with fail
            go_ret2
            exact KeysPost.no HE.out HBw1.out
          | some k =>
            rw [hk] at CKV
            unfold keyW at CKV
            have HK2 := Lib.hid (fun q => HN2.out k q hk)
            have HK3 := Lib.hid (HN3.out k hk)
            have HKl := Lib.hid (keyB_len hk)
            clear hk
            go_wp2_with fail
            have e0 := ext_cell c1 (cell_lt c1)
            have e1 := ext_cell c2 (cell_lt c2)
            have e2 := ext_cell c3 (cell_lt c3)
            refine wp_region_ext wr.heap.size (by kernel_rfl) (by kernel_rfl) ?_
            repeat (go_big_quiet_step ((go_at_call 83; exact ext_call _ (Nat.le_refl _) (CKV.out _))))
            refine wpQuiet_nil ?_
            rintro _ ⟨x, rfl⟩
            have hb1 := x.below
            generalize x.val = w1 at hb1 ⊢
            have HO1 := Lib.hid (own_below HO.out hb1)
            have HB1 := Lib.hid (hB.out.trans (hb1.mono (by have := hB.out.size; have := HZ0.out; omega)))
            have HBw1 := Lib.hid (below_then HBw.out hb1)
            clear hb1 e0 e1 e2
            by_cases h0 : 0 < i
            · have h0i : (0 : Int) < (i : Int) := by omega
              have h0d : decide (0 < i) = true := by simpa using h0
              obtain ⟨j, hj⟩ : ∃ j, i = j + 1 := ⟨i - 1, by omega⟩
              have hjk : j < ks.length := by rw [HKS.out]; omega
              have HG : Hid (ks.getLast? = some ks[j]) := by show _ = _; rw [List.getLast?_eq_getElem?, HKS.out, hj, show j + 1 - 1 = j from rfl, List.getElem?_eq_getElem hjk]
              obtain ⟨g, cq, rfl, hg1, hg2, hg3, hcells⟩ := own_open HO1.out h0
              have c3 : w1.cell? ⟨g, j, none⟩ = some (.string ⟨ks[j].toArray⟩) := hcells j _ (strs_get ks j hjk)
              have hji : (i : Int) - 1 = (j : Int) := by omega
              have r1 : (0 : Int) ≤ (j : Int) := by omega
              have r2 : (j : Int) < (i : Int) := by omega
              have hqs := hSM.out ks[j] (List.getElem_mem hjk)
              unfold maxLen at hg3
              clear hcells hj
              generalize ks[j] = q at *
              have HF := Lib.hid (fun h => hL.out.trans (HK2.out q HG.out h))
              have HS3 := Lib.hid (fun h => hL.out.trans (HK3.out (fun q' hq' => by rw [HG.out] at hq'; injection hq' with hq'; rw [← hq']; exact h)))
              have HC := Lib.hid (fun W => refCompare_below ⟨q.toArray⟩ ⟨k.toArray⟩ W (by unfold maxLen; simp [ByteArray.size]; omega) (by have := HKl.out; have := HR.out; unfold maxLen; simp [ByteArray.size]; omega))
              rw [show (⟨q.toArray⟩ : ByteArray).data.toList = q from rfl, show (⟨k.toArray⟩ : ByteArray).data.toList = k from rfl] at HC
              generalize compareBytes q k = c at *
              by_cases hge : 0 ≤ c
              · have HE := Lib.hid (HF.out hge)
                go_wp2_with fail
                refine (HC.out _).mono ?_
                rintro e w2 ⟨rfl, hb2⟩
                have HBw2 := Lib.hid (below_then HBw1.out hb2)
                clear hb2
                go_wp2_with fail
                go_ret2
                exact KeysPost.no HE.out HBw2.out
              · have HL2 := Lib.hid (HS3.out (by omega))
                go_wp2_with fail
                refine (HC.out _).mono ?_
                rintro e w2 ⟨rfl, hb2⟩
                have HO2 := Lib.hid (own_below HO1.out hb2)
                have HB2 := Lib.hid (HB1.out.trans (hb2.mono (by have := HB1.out.size; have := HZ0.out; omega)))
                clear hb2 HO1 HB1 c3
                have HS2 := Lib.hid (strs_one ks k)
                have hi1 : i + 1 ≤ 1000000 := by omega
                have hsz1 : w.heap.size + 1 ≤ w2.heap.size := by have := HB2.out.size; have := HZ0.out; omega
                go_wp2_with (at_builtin; refine wpList_append_own _ rfl _ _ 24 rfl (w.heap.size + 1) 9 i0 (.string ⟨#[]⟩) 1 16 Try.underlying24 HI.out HI0.out HI1.out HI2.out rfl (by decide) _ _ _ (by rfl) (HO2.out.alloc _) ⟨w2.heap.size, 0, none⟩ 1 1 [.string ⟨k.toArray⟩] (by rfl) rfl (one_new _ _ _) (one_str _) (by unfold maxLen; omega) (by omega) (by simp; omega) ?_; intro v' w5 hown5 hgrow5 _)
                rw [HS2.out] at hown5
                have HO5 := Lib.hid hown5
                have HB5 := Lib.hid ((HB2.out.alloc hsz1 (.cells #[.string ⟨k.toArray⟩] 9)).grown hgrow5 (by simp; omega) (fun j hj => (HO2.out.lt j hj).1))
                clear hown5 hgrow5
                go_roundw
                case rel => exact ⟨i + 1, ks ++ [k], by go_num, by omega, by rw [List.length_append, HKS.out]; rfl, HO5.out, HB5, Lib.hid (HL2.out), Lib.hid (fun q hq => by rcases List.mem_append.1 hq with h | h; exact hSM.out q h; rw [List.mem_singleton.1 h]; have := HKl.out; have := HR.out; omega)⟩
                case measure => simp [intOf]; omega
            · have h0i : ¬ (0 : Int) < (i : Int) := by omega
              have h0d : decide (0 < i) = false := by simpa using h0
              have HL2 := Lib.hid (hL.out.trans (HK3.out (fun q hq => by rw [List.eq_nil_of_length_eq_zero (l := ks) (by rw [HKS.out]; omega)] at hq; cases hq)))
              have HS2 := Lib.hid (strs_one ks k)
              have hi1 : i + 1 ≤ 1000000 := by omega
              have hsz1 : w.heap.size + 1 ≤ w1.heap.size := by have := HB1.out.size; have := HZ0.out; omega
              go_wp2_with (at_builtin; refine wpList_append_own _ rfl _ _ 24 rfl (w.heap.size + 1) 9 i0 (.string ⟨#[]⟩) 1 16 Try.underlying24 HI.out HI0.out HI1.out HI2.out rfl (by decide) _ _ _ (by rfl) (HO1.out.alloc _) ⟨w1.heap.size, 0, none⟩ 1 1 [.string ⟨k.toArray⟩] (by rfl) rfl (one_new _ _ _) (one_str _) (by unfold maxLen; omega) (by omega) (by simp; omega) ?_; intro v' w5 hown5 hgrow5 _)
              rw [HS2.out] at hown5
              have HO5 := Lib.hid hown5
              have HB5 := Lib.hid ((HB1.out.alloc hsz1 (.cells #[.string ⟨k.toArray⟩] 9)).grown hgrow5 (by simp; omega) (fun j hj => (HO1.out.lt j hj).1))
              clear hown5 hgrow5
              go_roundw
              case rel => exact ⟨i + 1, ks ++ [k], by go_num, by omega, by rw [List.length_append, HKS.out]; rfl, HO5.out, HB5, Lib.hid (HL2.out), Lib.hid (fun q hq => by rcases List.mem_append.1 hq with h | h; exact hSM.out q h; rw [List.mem_singleton.1 h]; have := HKl.out; have := HR.out; omega)⟩
              case measure => simp [intOf]; omega
        · have hci : ¬ (i : Int) < (n : Int) := by omega
          have HE := Lib.hid (hL.out.trans (keysLeft_end kind ks rows i (by rw [← HN.out]; omega)))
          rw [← HKS.out] at HO
          go_wp2_with fail
          go_ret2
          exact KeysPost.yes HE.out HO.out (Nat.le_succ _) HBw.out
    · have a1 : ((kind : Int) == 1) = false := by simp; omega
      have a2 : ((kind : Int) != 1) = true := by simp; omega
      have a3 : ((kind : Int) == 2) = true := by simp; omega
      have a7 : ((kind : Int) != 2) = false := by simp; omega
      have a4 : decide (level < 1) = false := by simp; omega
      have a5 : ¬ (level : Int) < (1 : Int) := by omega
      have a6 : decide (n < 1) = false := by simp; omega
      have a8 : ¬ (n : Int) < (1 : Int) := by omega
      clear hk hl hn1
      go_enter Try.func80, Try.ntmps80
      go_wp2_with fail
      go_loopw [4, 5] (fun s4 s5 wr => ∃ (i : Nat) (ks : List (List UInt8)), s5 = .int .i64 i ∧ i ≤ n ∧ ks.length = i ∧ wr.ownsRow (w.heap.size + 1) 9 1 s4 i (strs ks) ∧ Hid (Below (w.heap.size + 1) (w.alloc (.cells #[.int .u8 kind, .int .u8 level, .int .u32 id, .int .u64 lsn, .int .u32 next, .slice A n cp] 45)) wr) ∧ Hid (K = keysLeft kind ks rows i) ∧ Hid (∀ q ∈ ks, q.length ≤ 1000000)) (fun _ v _ => n - (intOf v).toNat)
      case atStart => exact ⟨0, [], rfl, Nat.zero_le _, rfl, World.ownsRow_nil _ _ _ _, Lib.hid (Below.refl _ _), Lib.hid (by rw [hKK.out, keysLeft_start]), Lib.hid (fun q hq => by cases hq)⟩
      case round =>
        obtain ⟨i, ks, rfl, hi, hks, hown, hB, hL, hSM⟩ := hrel
        have HO := Lib.hid hown
        have HKS := Lib.hid hks
        clear hown hks
        have HBw : Hid (Below w.heap.size w wr) := Lib.hid (HB0.out.trans (hB.out.mono (by rw [← HZ0.out]; exact Nat.le_of_lt (by have := HZ0.out; omega))))
        have c2 := (hB.out.cell (p := ⟨w.heap.size, 0, none⟩) (Nat.lt_succ_self _)).trans HC0.out
        have c3 := (hB.out.cell (p := ⟨w.heap.size, 5, none⟩) (Nat.lt_succ_self _)).trans HC5.out
        by_cases hc : i < n
        · have hci : (i : Int) < (n : Int) := by omega
          have hia : i < rows.length := by rw [← HN.out]; exact hc
          obtain ⟨b0, o0, rfl, hb0, hcell⟩ := H5.out (by omega)
          have c1 := keep_cell HBw.out (hcell i hia)
          have q1 : (0 : Int) ≤ (i : Int) := by omega
          have HR := Lib.hid (HWt.out i hia)
          have HN1 := Lib.hid (keysLeft_none kind ks rows i hia)
          have HN2 := Lib.hid (keysLeft_fall kind ks rows i hia)
          have HN3 := Lib.hid (keysLeft_step kind ks rows i hia)
          clear hcell
          generalize rows[i] = r at *
          have CKV := Lib.hid fun W => CK.out ⟨r.toArray⟩ W (by simpa [ByteArray.size] using HR.out)
          rw [show (⟨r.toArray⟩ : ByteArray).data.toList = r from rfl] at CKV
          cases hk : keyB kind r with
          | none =>
            have HE := Lib.hid (hL.out.trans (HN1.out hk))
            rw [hk] at CKV
            unfold keyW at CKV
            clear hk
            go_wp2_with fail
            have e0 := ext_cell c1 (cell_lt c1)
            have e1 := ext_cell c2 (cell_lt c2)
            have e2 := ext_cell c3 (cell_lt c3)
            refine wp_region_ext wr.heap.size (by kernel_rfl) (by kernel_rfl) ?_
            repeat (go_big_quiet_step ((go_at_call 83; exact ext_call _ (Nat.le_refl _) (CKV.out _))))
            refine wpQuiet_nil ?_
            rintro _ ⟨x, rfl⟩
            have hb1 := x.below
            generalize x.val = w1 at hb1 ⊢
            have HO1 := Lib.hid (own_below HO.out hb1)
            have HB1 := Lib.hid (hB.out.trans (hb1.mono (by have := hB.out.size; have := HZ0.out; omega)))
            have HBw1 := Lib.hid (below_then HBw.out hb1)
            clear hb1 e0 e1 e2
            go_wp2_with fail
            go_ret2
            exact KeysPost.no HE.out HBw1.out
          | some k =>
            rw [hk] at CKV
            unfold keyW at CKV
            have HK2 := Lib.hid (fun q => HN2.out k q hk)
            have HK3 := Lib.hid (HN3.out k hk)
            have HKl := Lib.hid (keyB_len hk)
            clear hk
            go_wp2_with fail
            have e0 := ext_cell c1 (cell_lt c1)
            have e1 := ext_cell c2 (cell_lt c2)
            have e2 := ext_cell c3 (cell_lt c3)
            refine wp_region_ext wr.heap.size (by kernel_rfl) (by kernel_rfl) ?_
            repeat (go_big_quiet_step ((go_at_call 83; exact ext_call _ (Nat.le_refl _) (CKV.out _))))
            refine wpQuiet_nil ?_
            rintro _ ⟨x, rfl⟩
            have hb1 := x.below
            generalize x.val = w1 at hb1 ⊢
            have HO1 := Lib.hid (own_below HO.out hb1)
            have HB1 := Lib.hid (hB.out.trans (hb1.mono (by have := hB.out.size; have := HZ0.out; omega)))
            have HBw1 := Lib.hid (below_then HBw.out hb1)
            clear hb1 e0 e1 e2
            by_cases h0 : 0 < i
            · have h0i : (0 : Int) < (i : Int) := by omega
              have h0d : decide (0 < i) = true := by simpa using h0
              obtain ⟨j, hj⟩ : ∃ j, i = j + 1 := ⟨i - 1, by omega⟩
              have hjk : j < ks.length := by rw [HKS.out]; omega
              have HG : Hid (ks.getLast? = some ks[j]) := by show _ = _; rw [List.getLast?_eq_getElem?, HKS.out, hj, show j + 1 - 1 = j from rfl, List.getElem?_eq_getElem hjk]
              obtain ⟨g, cq, rfl, hg1, hg2, hg3, hcells⟩ := own_open HO1.out h0
              have c3 : w1.cell? ⟨g, j, none⟩ = some (.string ⟨ks[j].toArray⟩) := hcells j _ (strs_get ks j hjk)
              have hji : (i : Int) - 1 = (j : Int) := by omega
              have r1 : (0 : Int) ≤ (j : Int) := by omega
              have r2 : (j : Int) < (i : Int) := by omega
              have hqs := hSM.out ks[j] (List.getElem_mem hjk)
              unfold maxLen at hg3
              clear hcells hj
              generalize ks[j] = q at *
              have HF := Lib.hid (fun h => hL.out.trans (HK2.out q HG.out h))
              have HS3 := Lib.hid (fun h => hL.out.trans (HK3.out (fun q' hq' => by rw [HG.out] at hq'; injection hq' with hq'; rw [← hq']; exact h)))
              have HC := Lib.hid (fun W => refCompare_below ⟨q.toArray⟩ ⟨k.toArray⟩ W (by unfold maxLen; simp [ByteArray.size]; omega) (by have := HKl.out; have := HR.out; unfold maxLen; simp [ByteArray.size]; omega))
              rw [show (⟨q.toArray⟩ : ByteArray).data.toList = q from rfl, show (⟨k.toArray⟩ : ByteArray).data.toList = k from rfl] at HC
              generalize compareBytes q k = c at *
              by_cases hge : 0 ≤ c
              · have HE := Lib.hid (HF.out hge)
                go_wp2_with fail
                refine (HC.out _).mono ?_
                rintro e w2 ⟨rfl, hb2⟩
                have HBw2 := Lib.hid (below_then HBw1.out hb2)
                clear hb2
                go_wp2_with fail
                go_ret2
                exact KeysPost.no HE.out HBw2.out
              · have HL2 := Lib.hid (HS3.out (by omega))
                go_wp2_with fail
                refine (HC.out _).mono ?_
                rintro e w2 ⟨rfl, hb2⟩
                have HO2 := Lib.hid (own_below HO1.out hb2)
                have HB2 := Lib.hid (HB1.out.trans (hb2.mono (by have := HB1.out.size; have := HZ0.out; omega)))
                clear hb2 HO1 HB1 c3
                have HS2 := Lib.hid (strs_one ks k)
                have hi1 : i + 1 ≤ 1000000 := by omega
                have hsz1 : w.heap.size + 1 ≤ w2.heap.size := by have := HB2.out.size; have := HZ0.out; omega
                go_wp2_with (at_builtin; refine wpList_append_own _ rfl _ _ 24 rfl (w.heap.size + 1) 9 i0 (.string ⟨#[]⟩) 1 16 Try.underlying24 HI.out HI0.out HI1.out HI2.out rfl (by decide) _ _ _ (by rfl) (HO2.out.alloc _) ⟨w2.heap.size, 0, none⟩ 1 1 [.string ⟨k.toArray⟩] (by rfl) rfl (one_new _ _ _) (one_str _) (by unfold maxLen; omega) (by omega) (by simp; omega) ?_; intro v' w5 hown5 hgrow5 _)
                rw [HS2.out] at hown5
                have HO5 := Lib.hid hown5
                have HB5 := Lib.hid ((HB2.out.alloc hsz1 (.cells #[.string ⟨k.toArray⟩] 9)).grown hgrow5 (by simp; omega) (fun j hj => (HO2.out.lt j hj).1))
                clear hown5 hgrow5
                go_roundw
                case rel => exact ⟨i + 1, ks ++ [k], by go_num, by omega, by rw [List.length_append, HKS.out]; rfl, HO5.out, HB5, Lib.hid (HL2.out), Lib.hid (fun q hq => by rcases List.mem_append.1 hq with h | h; exact hSM.out q h; rw [List.mem_singleton.1 h]; have := HKl.out; have := HR.out; omega)⟩
                case measure => simp [intOf]; omega
            · have h0i : ¬ (0 : Int) < (i : Int) := by omega
              have h0d : decide (0 < i) = false := by simpa using h0
              have HL2 := Lib.hid (hL.out.trans (HK3.out (fun q hq => by rw [List.eq_nil_of_length_eq_zero (l := ks) (by rw [HKS.out]; omega)] at hq; cases hq)))
              have HS2 := Lib.hid (strs_one ks k)
              have hi1 : i + 1 ≤ 1000000 := by omega
              have hsz1 : w.heap.size + 1 ≤ w1.heap.size := by have := HB1.out.size; have := HZ0.out; omega
              go_wp2_with (at_builtin; refine wpList_append_own _ rfl _ _ 24 rfl (w.heap.size + 1) 9 i0 (.string ⟨#[]⟩) 1 16 Try.underlying24 HI.out HI0.out HI1.out HI2.out rfl (by decide) _ _ _ (by rfl) (HO1.out.alloc _) ⟨w1.heap.size, 0, none⟩ 1 1 [.string ⟨k.toArray⟩] (by rfl) rfl (one_new _ _ _) (one_str _) (by unfold maxLen; omega) (by omega) (by simp; omega) ?_; intro v' w5 hown5 hgrow5 _)
              rw [HS2.out] at hown5
              have HO5 := Lib.hid hown5
              have HB5 := Lib.hid ((HB1.out.alloc hsz1 (.cells #[.string ⟨k.toArray⟩] 9)).grown hgrow5 (by simp; omega) (fun j hj => (HO1.out.lt j hj).1))
              clear hown5 hgrow5
              go_roundw
              case rel => exact ⟨i + 1, ks ++ [k], by go_num, by omega, by rw [List.length_append, HKS.out]; rfl, HO5.out, HB5, Lib.hid (HL2.out), Lib.hid (fun q hq => by rcases List.mem_append.1 hq with h | h; exact hSM.out q h; rw [List.mem_singleton.1 h]; have := HKl.out; have := HR.out; omega)⟩
              case measure => simp [intOf]; omega
        · have hci : ¬ (i : Int) < (n : Int) := by omega
          have HE := Lib.hid (hL.out.trans (keysLeft_end kind ks rows i (by rw [← HN.out]; omega)))
          rw [← HKS.out] at HO
          go_wp2_with fail
          go_ret2
          exact KeysPost.yes HE.out HO.out (Nat.le_succ _) HBw.out
  · have hKK : Hid (K = none) := by
      show _ = _
      rw [HK.out, if_neg (by rw [hbad]; simp)]
    unfold nodeShape at hbad
    simp only [Bool.or_eq_false_iff, Bool.and_eq_false_iff, decide_eq_false_iff_not] at hbad
    have HS : kind = 1 ∧ level ≠ 0 ∨ kind = 2 ∧ level = 0 ∨ kind = 2 ∧ level ≠ 0 ∧ n = 0 ∨ kind ≠ 1 ∧ kind ≠ 2 := by omega
    clear hbad HK
    rcases HS with ⟨hk, hl⟩ | ⟨hk, hl⟩ | ⟨hk, hl, hn1⟩ | ⟨hk, hl⟩
    · have a1 : ((kind : Int) == 1) = true := by simp; omega
      have a2 : ((kind : Int) != 1) = false := by simp; omega
      have a4 : decide (0 < level) = true := by simp; omega
      have a5 : (0 : Int) < (level : Int) := by omega
      clear hk hl
      go_enter Try.func80, Try.ntmps80
      go_wp2_with fail
      go_ret2
      exact KeysPost.no hKK.out HB0.out
    · have a1 : ((kind : Int) == 1) = false := by simp; omega
      have a2 : ((kind : Int) != 1) = true := by simp; omega
      have a3 : ((kind : Int) == 2) = true := by simp; omega
      have a7 : ((kind : Int) != 2) = false := by simp; omega
      have a4 : decide (level < 1) = true := by simp; omega
      have a5 : (level : Int) < (1 : Int) := by omega
      clear hk hl
      go_enter Try.func80, Try.ntmps80
      go_wp2_with fail
      go_ret2
      exact KeysPost.no hKK.out HB0.out
    · have a1 : ((kind : Int) == 1) = false := by simp; omega
      have a2 : ((kind : Int) != 1) = true := by simp; omega
      have a3 : ((kind : Int) == 2) = true := by simp; omega
      have a7 : ((kind : Int) != 2) = false := by simp; omega
      have a4 : decide (level < 1) = false := by simp; omega
      have a5 : ¬ (level : Int) < (1 : Int) := by omega
      have a6 : decide (n < 1) = true := by simp; omega
      have a8 : (n : Int) < (1 : Int) := by omega
      clear hk hl hn1
      go_enter Try.func80, Try.ntmps80
      go_wp2_with fail
      go_ret2
      exact KeysPost.no hKK.out HB0.out
    · have a2 : ((kind : Int) != 1) = true := by simp; omega
      have a7 : ((kind : Int) != 2) = true := by simp; omega
      clear hk hl
      go_enter Try.func80, Try.ntmps80
      go_wp2_with fail
      go_ret2
      exact KeysPost.no hKK.out HB0.out

end Go.Proofs.Ytjcfnfpilladfaa
