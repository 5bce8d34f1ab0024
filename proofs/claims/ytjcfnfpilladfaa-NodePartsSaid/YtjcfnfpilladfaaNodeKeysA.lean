/- chapter 08: the two closures of keyOf; chapter 08: a row's key, by its page's kind; chapter 08: the keys of a node's rows -/
import Derived.Test.YtjcfnfpilladfaaRows
import Derived.Test.YtjcfnfpilladfaaRowDecode
import Derived.Test.YtjcfnfpilladfaaEntA
import Derived.Test.YtjcfnfpilladfaaPlains
import Derived.Test.YtjcfnfpilladfaaTextsP
import Derived.WalkKit
import Derived.WalkLawsBesides
import Derived.WalkSpells
import Derived.LoopTactic
import Derived.WalkMore
import Derived.LoopN
import Derived.Laws.BitsAllLaws
import Derived.Laws.IdiomStrings
import Derived.BigQuiet
import Derived.Deep.QuietTactic
import Derived.Deep.DeepCutAuto
import Derived.Deep.RegionHeld3
import Derived.Deep.DrawnRows
import Derived.Lib.Hide
import Derived.Outline
import Derived.Deep.DeepMust
import Derived.Handy
import Derived.Maps.RangeWalk
import Derived.Maps.OwnSet
import Derived.Test.YtjcfnfpilladfaaRowA
namespace Go.Proofs.Ytjcfnfpilladfaa
open Go.RowKit
set_option linter.unusedVariables false
set_option linter.unusedSimpArgs false

/-- A key and its error, as a value. -/
def keyV : Option (List UInt8) → Value
  | some k => .tuple #[.string ⟨k.toArray⟩, .int .i64 0]
  | none => .tuple #[.string ⟨#[]⟩, .int .i64 7]

set_option maxHeartbeats 2000000 in
set_option maxRecDepth 100000 in
theorem keyOf1_any (g : Nat) (s : ByteArray) (w : World) (h : w.cell? ⟨g, 0, none⟩ = some (.string s)) (hs : s.size ≤ 1000000) :
    Calls Try.prog 114 #[.pointer (some ⟨g, 0, none⟩)] w fun e w' => e = .returned (keyV (keyB 1 s.data.toList)) ∧ Below w.heap.size w w' := by
  have c := fun W => rowDecode_any s W hs
  cases hd : decOk s.data.toList with
  | true =>
    have e1 : decV s.data.toList = .tuple #[.agg #[.string ⟨(dK s.data.toList).toArray⟩, .bool (decide (0 < rdNum s.data.toList 0 1)), .int .u64 (rdNum s.data.toList 1 8), .int .u32 (rdNum s.data.toList 9 4), .int .u16 (rdNum s.data.toList 13 2), .string ⟨(dV s.data.toList).toArray⟩, .int .i64 (dPad s.data.toList)], .int .i64 0] := by unfold decV; rw [if_pos hd]
    have e2 : Hid (keyB 1 s.data.toList = some (dK s.data.toList)) := by show _ = _; unfold keyB; rw [if_pos rfl, if_pos hd]
    simp only [e1] at c
    clear e1 hd
    have C := Lib.hid c
    clear c
    rw [e2.out]
    generalize dK s.data.toList = k at *
    generalize rdNum s.data.toList 1 8 = n1 at *
    generalize rdNum s.data.toList 9 4 = n2 at *
    generalize rdNum s.data.toList 13 2 = n3 at *
    generalize dV s.data.toList = v at *
    generalize dPad s.data.toList = d at *
    generalize decide (0 < rdNum s.data.toList 0 1) = b at *
    go_enter Try.func114, Try.ntmps114
    go_wp2_with fail
    refine (C.out _).mono ?_
    rintro e w1 ⟨rfl, hb1⟩
    go_wp2_with fail
    go_ret2
    exact ⟨rfl, hb1.alloc hb1.size _⟩
  | false =>
    have e1 : decV s.data.toList = .tuple #[.agg #[.string ⟨#[]⟩, .bool false, .int .u64 0, .int .u32 0, .int .u16 0, .string ⟨#[]⟩, .int .i64 0], .int .i64 7] := by unfold decV; rw [if_neg (by rw [hd]; simp)]
    have e2 : Hid (keyB 1 s.data.toList = none) := by show _ = _; unfold keyB; rw [if_pos rfl, if_neg (by rw [hd]; simp)]
    simp only [e1] at c
    clear e1 hd
    have C := Lib.hid c
    clear c
    rw [e2.out]
    go_enter Try.func114, Try.ntmps114
    go_wp2_with fail
    refine (C.out _).mono ?_
    rintro e w1 ⟨rfl, hb1⟩
    go_wp2_with fail
    go_ret2
    exact ⟨rfl, hb1.alloc hb1.size _⟩

set_option maxHeartbeats 2000000 in
set_option maxRecDepth 100000 in
theorem keyOf2_any (g : Nat) (s : ByteArray) (w : World) (h : w.cell? ⟨g, 0, none⟩ = some (.string s)) (hs : s.size ≤ 1000000) :
    Calls Try.prog 116 #[.pointer (some ⟨g, 0, none⟩)] w fun e w' => e = .returned (keyV (keyB 2 s.data.toList)) ∧ Below w.heap.size w w' := by
  have c := fun W => entDecode_any s W hs
  cases hd : decEntOk s.data.toList with
  | true =>
    have e1 : decEntV s.data.toList = .tuple #[.agg #[.string ⟨(s.data.toList.drop 4).toArray⟩, .int .u32 (rdNum s.data.toList 0 4)], .int .i64 0] := by unfold decEntV; rw [if_pos hd]
    have e2 : Hid (keyB 2 s.data.toList = some (s.data.toList.drop 4)) := by show _ = _; unfold keyB; rw [if_neg (by decide), if_pos hd]
    simp only [e1] at c
    clear e1 hd
    have C := Lib.hid c
    clear c
    rw [e2.out]
    generalize s.data.toList.drop 4 = k at *
    generalize rdNum s.data.toList 0 4 = n1 at *
    go_enter Try.func116, Try.ntmps116
    go_wp2_with fail
    refine (C.out _).mono ?_
    rintro e w1 ⟨rfl, hb1⟩
    go_wp2_with fail
    go_ret2
    exact ⟨rfl, hb1.alloc hb1.size _⟩
  | false =>
    have e1 : decEntV s.data.toList = .tuple #[.agg #[.string ⟨#[]⟩, .int .u32 0], .int .i64 7] := by unfold decEntV; rw [if_neg (by rw [hd]; simp)]
    have e2 : Hid (keyB 2 s.data.toList = none) := by show _ = _; unfold keyB; rw [if_neg (by decide), if_neg (by rw [hd]; simp)]
    simp only [e1] at c
    clear e1 hd
    have C := Lib.hid c
    clear c
    rw [e2.out]
    go_enter Try.func116, Try.ntmps116
    go_wp2_with fail
    refine (C.out _).mono ?_
    rintro e w1 ⟨rfl, hb1⟩
    go_wp2_with fail
    go_ret2
    exact ⟨rfl, hb1.alloc hb1.size _⟩

end Go.Proofs.Ytjcfnfpilladfaa

namespace Go.Proofs.Ytjcfnfpilladfaa
open Go.RowKit
set_option linter.unusedVariables false
set_option linter.unusedSimpArgs false

set_option maxHeartbeats 2000000 in
set_option maxRecDepth 100000 in
theorem keyOf_any (kind : Nat) (s : ByteArray) (w : World) (hk : kind = 1 ∨ kind = 2) (hs : s.size ≤ 1000000) :
    Calls Try.prog 82 #[.int .u8 kind, .string s] w fun e w' => e = .returned (keyV (keyB kind s.data.toList)) ∧ Below w.heap.size w w' := by
  have C1 := Lib.hid fun g W h => keyOf1_any g s W h hs
  have C2 := Lib.hid fun g W h => keyOf2_any g s W h hs
  have hmf : ∀ (fn : Fn) (first cap : Array Value) (w : World), (Instr.makeFunc fn first cap).run Try.prog w = .ok (.func fn first cap) w := fun _ _ _ _ => rfl
  have hmm := @run_makeMap Try.prog
  obtain ⟨W0, hW0⟩ : ∃ W0, W0 = (w.alloc (.cells #[.string s] 9)).alloc (.map #[] 0) := ⟨_, rfl⟩
  have hn : (w.alloc (.cells #[.string s] 9)).heap.size = w.heap.size + 1 := by simp
  have a0 : FnAt W0 (w.heap.size + 1) [] := by rw [hW0, ← hn]; exact FnAt.new _
  have b0 : W0.cell? ⟨w.heap.size, 0, none⟩ = some (.string s) := by
    rw [hW0, blk_cell (heap_keep (heap_alloc_new w (.cells #[.string s] 9)))]
    rfl
  have B0 : Below w.heap.size w W0 := by rw [hW0]; exact ((Below.refl _ _).alloc (Nat.le_refl _) _).alloc (by simp) _
  obtain ⟨W1, r1, g1, a1⟩ := a0.put (t := 155) Try.underlying155 1 (.func (.func 114) #[] #[.pointer (some ⟨w.heap.size, 0, none⟩)]) (by decide) rfl (by simp)
  obtain ⟨W2, r2, g2, a2⟩ := a1.put (t := 155) Try.underlying155 2 (.func (.func 116) #[] #[.pointer (some ⟨w.heap.size, 0, none⟩)]) (by decide) rfl (by simp)
  have B2 : Below w.heap.size w W2 := (B0.grown g1 B0.size (fun k hk => by injection hk with hk; omega)).grown g2 (Nat.le_trans B0.size g1.size) (fun k hk => by injection hk with hk; omega)
  have b2 : W2.cell? ⟨w.heap.size, 0, none⟩ = some (.string s) := by
    have h0 := cell_lt b0
    rw [World.cell?_of_block (w := W1) (g2.block _ (Nat.lt_of_lt_of_le h0 g1.size) (by simp)), World.cell?_of_block (w := W0) (g1.block _ h0 (by simp))]
    exact b0
  have hz : (zeroValue 154).run Try.prog W2 = .ok .nilFunc W2 := by kernel_rfl
  have l1 := a2.look (t := 155) Try.underlying155 hz (k := 1) (by decide) rfl
  have l2 := a2.look (t := 155) Try.underlying155 hz (k := 2) (by decide) rfl
  have R2 := Lib.hid B2
  have m1 : (Instr.mapUpdate 155 (.map (some (w.heap.size + 1))) (.int .u8 1) (.func (.func 114) #[] #[.pointer (some ⟨w.heap.size, 0, none⟩)])).run Try.prog W0 = .ok () W1 := r1
  have m2 : (Instr.mapUpdate 155 (.map (some (w.heap.size + 1))) (.int .u8 2) (.func (.func 116) #[] #[.pointer (some ⟨w.heap.size, 0, none⟩)])).run Try.prog W1 = .ok () W2 := r2
  have n1 : (Instr.lookup 155 (.map (some (w.heap.size + 1))) (.int .u8 1) true).run Try.prog W2 = .ok (.tuple #[.func (.func 114) #[] #[.pointer (some ⟨w.heap.size, 0, none⟩)], .bool true]) W2 := l1
  have n2 : (Instr.lookup 155 (.map (some (w.heap.size + 1))) (.int .u8 2) true).run Try.prog W2 = .ok (.tuple #[.func (.func 116) #[] #[.pointer (some ⟨w.heap.size, 0, none⟩)], .bool true]) W2 := l2
  clear r1 r2 l1 l2 a0 a1 a2 B0 B2 b0 g1 g2 hz hn
  subst hW0
  rcases hk with rfl | rfl
  · go_enter Try.func82, Try.ntmps82
    go_wp2_with fail
    refine (C1.out _ _ b2).mono ?_
    rintro e w1 ⟨rfl, hb1⟩
    have HB := Lib.hid (below_then R2.out hb1)
    cases ho : keyB 1 s.data.toList with
    | none =>
      have HO := Lib.hid ho
      clear ho
      unfold keyV
      go_wp2_with fail
      go_ret2
      exact ⟨by rw [HO.out]; rfl, HB.out⟩
    | some k =>
      have HO := Lib.hid ho
      clear ho
      unfold keyV
      go_wp2_with fail
      go_ret2
      exact ⟨by rw [HO.out]; rfl, HB.out⟩
  · go_enter Try.func82, Try.ntmps82
    go_wp2_with fail
    refine (C2.out _ _ b2).mono ?_
    rintro e w1 ⟨rfl, hb1⟩
    have HB := Lib.hid (below_then R2.out hb1)
    cases ho : keyB 2 s.data.toList with
    | none =>
      have HO := Lib.hid ho
      clear ho
      unfold keyV
      go_wp2_with fail
      go_ret2
      exact ⟨by rw [HO.out]; rfl, HB.out⟩
    | some k =>
      have HO := Lib.hid ho
      clear ho
      unfold keyV
      go_wp2_with fail
      go_ret2
      exact ⟨by rw [HO.out]; rfl, HB.out⟩

end Go.Proofs.Ytjcfnfpilladfaa

namespace Go.Proofs.Ytjcfnfpilladfaa
open Go.RowKit
set_option linter.unusedVariables false
set_option linter.unusedSimpArgs false

open Go.Lib (compareBytes)
/-- What keys leaves: the keys in a slice of its own. -/
def KeysPost (w : World) (K : Option (List (List UInt8))) (e : Ending) (w' : World) : Prop :=
  ∃ v, e = .returned (.tuple #[v, .bool K.isSome]) ∧ w'.ownsRow w.heap.size 9 1 v (K.getD []).length (strs (K.getD [])) ∧ Below w.heap.size w w'
theorem KeysPost.no {w w' : World} {K : Option (List (List UInt8))} (hK : K = none) (hb : Below w.heap.size w w') : KeysPost w K (.returned (.tuple #[.slice none 0 0, .bool false])) w' :=
  ⟨_, by rw [hK]; rfl, by rw [hK]; exact World.ownsRow_nil _ _ _ _, hb⟩
theorem own_base_le {w : World} {base base' n size : Nat} {e : TypeId} {v : Value} {xs : List Value} (hle : base' ≤ base) (h : w.ownsRow base e size v n xs) : w.ownsRow base' e size v n xs := ⟨h.1, h.2.imp id fun ⟨g, cap, cur, h1, hb, h3⟩ => ⟨g, cap, cur, h1, Nat.le_trans hle hb, h3⟩⟩
theorem KeysPost.yes {w w' : World} {K : Option (List (List UInt8))} {ks : List (List UInt8)} {v : Value} {b : Nat} (hK : K = some ks) (ho : w'.ownsRow b 9 1 v ks.length (strs ks)) (hle : w.heap.size ≤ b) (hb : Below w.heap.size w w') : KeysPost w K (.returned (.tuple #[v, .bool true])) w' :=
  ⟨_, by rw [hK]; rfl, by rw [hK]; exact own_base_le hle ho, hb⟩
theorem strs_one (ks : List (List UInt8)) (k : List UInt8) : strs ks ++ [.string ⟨k.toArray⟩] = strs (ks ++ [k]) := by unfold strs; rw [List.map_append]; rfl
theorem Try.infoStr : (Try.prog.info? 9).map (fun i => (i.zero, i.size, i.bytes)) = some (some (.string ⟨#[]⟩), 1, 16) := by kernel_rfl
set_option maxHeartbeats 4000000 in
set_option maxRecDepth 100000 in
theorem nodeKeys_any (p : Pg) (sv : Value) (w : World) (hp : p.wf) (ht : TextsAt w sv p.rows) (hb : weightB p.rows ≤ 1000000) :
    Calls Try.prog 75 #[pgV p sv] w (KeysPost w (keysB p)) := by
  obtain ⟨kind, level, id, lsn, next, rows⟩ := p
  obtain ⟨A, cp, rfl, h2, h3, h4, h5⟩ := ht
  simp only at *
  obtain ⟨n, hn⟩ : ∃ n, n = rows.length := ⟨_, rfl⟩
  rw [← hn] at h2
  unfold pgV
  simp only [← hn]
  unfold maxLen at h3
  have H5 := Lib.hid h5
  have HN := Lib.hid hn
  have HK : Hid (keysB ⟨kind, level, id, lsn, next, rows⟩ = if nodeShape kind level n then keysR kind none rows else none) := by show _ = _; rw [hn]; rfl
  have hnb : n ≤ 1000000 := by have := weightB_length rows; omega
  have HWt : Hid (∀ i (h : i < rows.length), rows[i].length ≤ 1000000) := fun i h => by have := weightB_mem (List.getElem_mem h); omega
  obtain ⟨p1, p2, p3, p4, p5⟩ := hp
  simp only at p1 p2 p3 p4 p5
  clear h5 h4 hn hb
  generalize keysB ⟨kind, level, id, lsn, next, rows⟩ = K at HK ⊢
  have HB0 := Lib.hid ((Below.refl w.heap.size w).alloc (Nat.le_refl _) (.cells #[.int .u8 kind, .int .u8 level, .int .u32 id, .int .u64 lsn, .int .u32 next, .slice A n cp] 45))
  have c0 : (w.alloc (.cells #[.int .u8 kind, .int .u8 level, .int .u32 id, .int .u64 lsn, .int .u32 next, .slice A n cp] 45)).cell? ⟨w.heap.size, 0, none⟩ = some (.int .u8 kind) := by go_simp
  have HC0 := Lib.hid c0
  have HZ0 : Hid ((w.alloc (.cells #[.int .u8 kind, .int .u8 level, .int .u32 id, .int .u64 lsn, .int .u32 next, .slice A n cp] 45)).heap.size = w.heap.size + 1) := by show _ = _; simp
  clear c0
  have hgood : ((kind = 1 ∧ level = 0) ∨ (kind = 2 ∧ 1 ≤ level ∧ 1 ≤ n)) ∨ nodeShape kind level n = false := by
    cases hs : nodeShape kind level n with
    | false => exact .inr rfl
    | true =>
      unfold nodeShape at hs
      simp only [Bool.or_eq_true, Bool.and_eq_true, decide_eq_true_eq] at hs
      exact .inl hs
  rcases hgood with hgood | hbad
  · have hKK : Hid (K = keysR kind none rows) := by
      show _ = _
      rw [HK.out, if_pos]
      unfold nodeShape
      simp only [Bool.or_eq_true, Bool.and_eq_true, decide_eq_true_eq]
      exact hgood
    have hk12 : kind = 1 ∨ kind = 2 := by omega
    have CK := Lib.hid fun (s : ByteArray) W hs => keyOf_any kind s W hk12 hs
    have CC := Lib.hid keyCompare_any
    obtain ⟨i0, hi, hz0, hz1, hz2⟩ := info_parts Try.infoStr
    have HI := Lib.hid hi
    have HI0 := Lib.hid hz0
    have HI1 := Lib.hid hz1
    have HI2 := Lib.hid hz2
    clear hi hz0 hz1 hz2 HK hk12
    rcases hgood with ⟨hk, hl⟩ | ⟨hk, hl, hn1⟩
    · have a1 : ((kind : Int) == 1) = true := by simp; omega
      have a2 : ((level : Int) != 0) = false := by simp; omega
      have a3 : ((kind : Int) == 2) = false := by simp; omega
      have a4 : ((kind : Int) != 1) = false := by simp; omega
      clear hk hl
      go_enter Try.func75, Try.ntmps75
      go_wp2_with fail
      go_loopw [2, 45] (fun s2 s45 wr => ∃ (i : Nat) (ks : List (List UInt8)), s45 = .int .i64 i ∧ i ≤ n ∧ ks.length = i ∧ wr.ownsRow (w.heap.size + 1) 9 1 s2 i (strs ks) ∧ Hid (Below (w.heap.size + 1) (w.alloc (.cells #[.int .u8 kind, .int .u8 level, .int .u32 id, .int .u64 lsn, .int .u32 next, .slice A n cp] 45)) wr) ∧ Hid (K = keysLeft kind ks rows i)) (fun _ v _ => n - (intOf v).toNat)
      case atStart => exact ⟨0, [], rfl, Nat.zero_le _, rfl, World.ownsRow_nil _ _ _ _, Lib.hid (Below.refl _ _), Lib.hid (by rw [hKK.out, keysLeft_start])⟩
      case round =>
        obtain ⟨i, ks, rfl, hi, hks, hown, hB, hL⟩ := hrel
        have HO := Lib.hid hown
        have HKS := Lib.hid hks
        clear hown hks
        have HBw : Hid (Below w.heap.size w wr) := Lib.hid (HB0.out.trans (hB.out.mono (by rw [← HZ0.out]; exact Nat.le_of_lt (by have := HZ0.out; omega))))
        by_cases hc : i < n
        · have hci : (i : Int) < (n : Int) := by omega
          have hia : i < rows.length := by rw [← HN.out]; exact hc
          obtain ⟨b0, o0, rfl, hb0, hcell⟩ := H5.out (by omega)
          have c1 := keep_cell HBw.out (hcell i hia)
          have c2 := (hB.out.cell (p := ⟨w.heap.size, 0, none⟩) (Nat.lt_succ_self _)).trans HC0.out
          have q1 : (0 : Int) ≤ (i : Int) := by omega
          have HR := Lib.hid (HWt.out i hia)
          have HN1 := Lib.hid (keysLeft_none kind ks rows i hia)
          have HN2 := Lib.hid (keysLeft_fall kind ks rows i hia)
          have HN3 := Lib.hid (keysLeft_step kind ks rows i hia)
          clear hcell
          generalize rows[i] = r at *
          go_wp2_with fail
          refine (CK.out ⟨r.toArray⟩ wr (by simpa [ByteArray.size] using HR.out)).mono ?_
          rintro e w1 ⟨rfl, hb1⟩
          have HO1 := Lib.hid (own_below HO.out hb1)
          have HB1 := Lib.hid (hB.out.trans (hb1.mono (by have := hB.out.size; have := HZ0.out; omega)))
          have HBw1 := Lib.hid (below_then HBw.out hb1)
          clear hb1
          cases hk : keyB kind r with
          | none =>
            have HE := Lib.hid (hL.out.trans (HN1.out hk))
            unfold keyV
            clear hk
            go_wp2_with fail
            go_ret2
            exact KeysPost.no HE.out HBw1.out
          | some k =>
            unfold keyV
            have HK2 := Lib.hid (fun q => HN2.out k q hk)
            have HK3 := Lib.hid (HN3.out k hk)
            clear hk
            by_cases h0 : 0 < i
            · have h0i : (0 : Int) < (i : Int) := by omega
              have h0d : decide (0 < i) = true := by simpa using h0
              obtain ⟨j, hj⟩ : ∃ j, i = j + 1 := ⟨i - 1, by omega⟩
              have hjk : j < ks.length := by rw [HKS.out]; omega
              have HG : Hid (ks.getLast? = some ks[j]) := by show _ = _; rw [List.getLast?_eq_getElem?, HKS.out, hj, show j + 1 - 1 = j from rfl, List.getElem?_eq_getElem hjk]
              obtain ⟨g, cq, rfl, hg1, hg2, hg3, hcells⟩ := own_open HO1.out h0
              have c3 : w1.cell? ⟨g, j, none⟩ = some (.string ⟨ks[j].toArray⟩) := hcells j _ (strs_get ks j hjk)
              have hji : (i : Int) - 1 = (j : Int) := by omega
              have r1 : (0 : Int) ≤ (j : Int) := by omega
              have r2 : (j : Int) < (i : Int) := by omega
              unfold maxLen at hg3
              clear hcells hj
              generalize ks[j] = q at *
              have HF := Lib.hid (fun h => hL.out.trans (HK2.out q HG.out h))
              have HS3 := Lib.hid (fun h => hL.out.trans (HK3.out (fun q' hq' => by rw [HG.out] at hq'; injection hq' with hq'; rw [← hq']; exact h)))
              have HC := Lib.hid (fun W => keyCompare_any ⟨q.toArray⟩ ⟨k.toArray⟩ W)
              rw [show (⟨q.toArray⟩ : ByteArray).data.toList = q from rfl, show (⟨k.toArray⟩ : ByteArray).data.toList = k from rfl] at HC
              generalize compareBytes q k = c at *
              by_cases hge : 0 ≤ c
              · have HE := Lib.hid (HF.out hge)
                go_wp2_with fail
                refine (HC.out _).mono ?_
                rintro e w2 ⟨rfl, rfl⟩
                go_wp2_with fail
                go_ret2
                exact KeysPost.no HE.out HBw1.out
              · have HL2 := Lib.hid (HS3.out (by omega))
                go_wp2_with fail
                refine (HC.out _).mono ?_
                rintro e w2 ⟨rfl, rfl⟩
                have HS2 := Lib.hid (strs_one ks k)
                have hi1 : i + 1 ≤ 1000000 := by omega
                have hsz1 : w.heap.size + 1 ≤ w1.heap.size := by have := HB1.out.size; have := HZ0.out; omega
                go_wp2_with (at_builtin; refine wpList_append_own _ rfl _ _ 24 rfl (w.heap.size + 1) 9 i0 (.string ⟨#[]⟩) 1 16 Try.underlying24 HI.out HI0.out HI1.out HI2.out rfl (by decide) _ _ _ (by rfl) (HO1.out.alloc _) ⟨w1.heap.size, 0, none⟩ 1 1 [.string ⟨k.toArray⟩] (by rfl) rfl (one_new _ _ _) (one_str _) (by unfold maxLen; omega) (by omega) (by simp; omega) ?_; intro v' w5 hown5 hgrow5 _)
                rw [HS2.out] at hown5
                have HO5 := Lib.hid hown5
                have HB5 := Lib.hid ((HB1.out.alloc hsz1 (.cells #[.string ⟨k.toArray⟩] 9)).grown hgrow5 (by simp; omega) (fun j hj => (HO1.out.lt j hj).1))
                clear hown5 hgrow5
                go_roundw
                case rel => exact ⟨i + 1, ks ++ [k], by go_num, by omega, by rw [List.length_append, HKS.out]; rfl, HO5.out, HB5, Lib.hid (HL2.out)⟩
                case measure => simp [intOf]; omega
            · have h0i : ¬ (0 : Int) < (i : Int) := by omega
              have h0d : decide (0 < i) = false := by simpa using h0
              have HL2 := Lib.hid (hL.out.trans (HK3.out (fun q hq => by rw [List.eq_nil_of_length_eq_zero (l := ks) (by rw [HKS.out]; omega)] at hq; cases hq)))
              have HS2 := Lib.hid (strs_one ks k)
              have hi1 : i + 1 ≤ 1000000 := by omega
              have hsz1 : w.heap.size + 1 ≤ w1.heap.size := by have := HB1.out.size; have := HZ0.out; omega
              go_wp2_with (at_builtin; refine wpList_append_own _ rfl _ _ 24 rfl (w.heap.size + 1) 9 i0 (.string ⟨#[]⟩) 1 16 Try.underlying24 HI.out HI0.out HI1.out HI2.out rfl (by decide) _ _ _ (by rfl) (HO1.out.alloc _) ⟨w1.heap.size, 0, none⟩ 1 1 [.string ⟨k.toArray⟩] (by rfl) rfl (one_new _ _ _) (one_str _) (by unfold maxLen; omega) (by omega) (by simp; omega) ?_; intro v' w5 hown5 hgrow5 _)
              rw [HS2.out] at hown5
              have HO5 := Lib.hid hown5
              have HB5 := Lib.hid ((HB1.out.alloc hsz1 (.cells #[.string ⟨k.toArray⟩] 9)).grown hgrow5 (by simp; omega) (fun j hj => (HO1.out.lt j hj).1))
              clear hown5 hgrow5
              go_roundw
              case rel => exact ⟨i + 1, ks ++ [k], by go_num, by omega, by rw [List.length_append, HKS.out]; rfl, HO5.out, HB5, Lib.hid (HL2.out)⟩
              case measure => simp [intOf]; omega
        · have hci : ¬ (i : Int) < (n : Int) := by omega
          have HE := Lib.hid (hL.out.trans (keysLeft_end kind ks rows i (by rw [← HN.out]; omega)))
          rw [← HKS.out] at HO
          go_wp2_with fail
          go_ret2
          exact KeysPost.yes HE.out HO.out (Nat.le_succ _) HBw.out
    · have a1 : ((kind : Int) == 1) = false := by simp; omega
      have a3 : ((kind : Int) == 2) = true := by simp; omega
      have a4 : ((kind : Int) != 1) = true := by simp; omega
      have a5 : ((level : Int) == 0) = false := by simp; omega
      have a6 : ((n : Int) == 0) = false := by simp; omega
      have a7 : ((kind : Int) != 2) = false := by simp; omega
      clear hk hl hn1
      go_enter Try.func75, Try.ntmps75
      go_wp2_with fail
      go_loopw [2, 45] (fun s2 s45 wr => ∃ (i : Nat) (ks : List (List UInt8)), s45 = .int .i64 i ∧ i ≤ n ∧ ks.length = i ∧ wr.ownsRow (w.heap.size + 1) 9 1 s2 i (strs ks) ∧ Hid (Below (w.heap.size + 1) (w.alloc (.cells #[.int .u8 kind, .int .u8 level, .int .u32 id, .int .u64 lsn, .int .u32 next, .slice A n cp] 45)) wr) ∧ Hid (K = keysLeft kind ks rows i)) (fun _ v _ => n - (intOf v).toNat)
      case atStart => exact ⟨0, [], rfl, Nat.zero_le _, rfl, World.ownsRow_nil _ _ _ _, Lib.hid (Below.refl _ _), Lib.hid (by rw [hKK.out, keysLeft_start])⟩
      case round =>
        obtain ⟨i, ks, rfl, hi, hks, hown, hB, hL⟩ := hrel
        have HO := Lib.hid hown
        have HKS := Lib.hid hks
        clear hown hks
        have HBw : Hid (Below w.heap.size w wr) := Lib.hid (HB0.out.trans (hB.out.mono (by rw [← HZ0.out]; exact Nat.le_of_lt (by have := HZ0.out; omega))))
        by_cases hc : i < n
        · have hci : (i : Int) < (n : Int) := by omega
          have hia : i < rows.length := by rw [← HN.out]; exact hc
          obtain ⟨b0, o0, rfl, hb0, hcell⟩ := H5.out (by omega)
          have c1 := keep_cell HBw.out (hcell i hia)
          have c2 := (hB.out.cell (p := ⟨w.heap.size, 0, none⟩) (Nat.lt_succ_self _)).trans HC0.out
          have q1 : (0 : Int) ≤ (i : Int) := by omega
          have HR := Lib.hid (HWt.out i hia)
          have HN1 := Lib.hid (keysLeft_none kind ks rows i hia)
          have HN2 := Lib.hid (keysLeft_fall kind ks rows i hia)
          have HN3 := Lib.hid (keysLeft_step kind ks rows i hia)
          clear hcell
          generalize rows[i] = r at *
          go_wp2_with fail
          refine (CK.out ⟨r.toArray⟩ wr (by simpa [ByteArray.size] using HR.out)).mono ?_
          rintro e w1 ⟨rfl, hb1⟩
          have HO1 := Lib.hid (own_below HO.out hb1)
          have HB1 := Lib.hid (hB.out.trans (hb1.mono (by have := hB.out.size; have := HZ0.out; omega)))
          have HBw1 := Lib.hid (below_then HBw.out hb1)
          clear hb1
          cases hk : keyB kind r with
          | none =>
            have HE := Lib.hid (hL.out.trans (HN1.out hk))
            unfold keyV
            clear hk
            go_wp2_with fail
            go_ret2
            exact KeysPost.no HE.out HBw1.out
          | some k =>
            unfold keyV
            have HK2 := Lib.hid (fun q => HN2.out k q hk)
            have HK3 := Lib.hid (HN3.out k hk)
            clear hk
            by_cases h0 : 0 < i
            · have h0i : (0 : Int) < (i : Int) := by omega
              have h0d : decide (0 < i) = true := by simpa using h0
              obtain ⟨j, hj⟩ : ∃ j, i = j + 1 := ⟨i - 1, by omega⟩
              have hjk : j < ks.length := by rw [HKS.out]; omega
              have HG : Hid (ks.getLast? = some ks[j]) := by show _ = _; rw [List.getLast?_eq_getElem?, HKS.out, hj, show j + 1 - 1 = j from rfl, List.getElem?_eq_getElem hjk]
              obtain ⟨g, cq, rfl, hg1, hg2, hg3, hcells⟩ := own_open HO1.out h0
              have c3 : w1.cell? ⟨g, j, none⟩ = some (.string ⟨ks[j].toArray⟩) := hcells j _ (strs_get ks j hjk)
              have hji : (i : Int) - 1 = (j : Int) := by omega
              have r1 : (0 : Int) ≤ (j : Int) := by omega
              have r2 : (j : Int) < (i : Int) := by omega
              unfold maxLen at hg3
              clear hcells hj
              generalize ks[j] = q at *
              have HF := Lib.hid (fun h => hL.out.trans (HK2.out q HG.out h))
              have HS3 := Lib.hid (fun h => hL.out.trans (HK3.out (fun q' hq' => by rw [HG.out] at hq'; injection hq' with hq'; rw [← hq']; exact h)))
              have HC := Lib.hid (fun W => keyCompare_any ⟨q.toArray⟩ ⟨k.toArray⟩ W)
              rw [show (⟨q.toArray⟩ : ByteArray).data.toList = q from rfl, show (⟨k.toArray⟩ : ByteArray).data.toList = k from rfl] at HC
              generalize compareBytes q k = c at *
              by_cases hge : 0 ≤ c
              · have HE := Lib.hid (HF.out hge)
                go_wp2_with fail
                refine (HC.out _).mono ?_
                rintro e w2 ⟨rfl, rfl⟩
                go_wp2_with fail
                go_ret2
                exact KeysPost.no HE.out HBw1.out
              · have HL2 := Lib.hid (HS3.out (by omega))
                go_wp2_with fail
                refine (HC.out _).mono ?_
                rintro e w2 ⟨rfl, rfl⟩
                have HS2 := Lib.hid (strs_one ks k)
                have hi1 : i + 1 ≤ 1000000 := by omega
                have hsz1 : w.heap.size + 1 ≤ w1.heap.size := by have := HB1.out.size; have := HZ0.out; omega
                go_wp2_with (at_builtin; refine wpList_append_own _ rfl _ _ 24 rfl (w.heap.size + 1) 9 i0 (.string ⟨#[]⟩) 1 16 Try.underlying24 HI.out HI0.out HI1.out HI2.out rfl (by decide) _ _ _ (by rfl) (HO1.out.alloc _) ⟨w1.heap.size, 0, none⟩ 1 1 [.string ⟨k.toArray⟩] (by rfl) rfl (one_new _ _ _) (one_str _) (by unfold maxLen; omega) (by omega) (by simp; omega) ?_; intro v' w5 hown5 hgrow5 _)
                rw [HS2.out] at hown5
                have HO5 := Lib.hid hown5
                have HB5 := Lib.hid ((HB1.out.alloc hsz1 (.cells #[.string ⟨k.toArray⟩] 9)).grown hgrow5 (by simp; omega) (fun j hj => (HO1.out.lt j hj).1))
                clear hown5 hgrow5
                go_roundw
                case rel => exact ⟨i + 1, ks ++ [k], by go_num, by omega, by rw [List.length_append, HKS.out]; rfl, HO5.out, HB5, Lib.hid (HL2.out)⟩
                case measure => simp [intOf]; omega
            · have h0i : ¬ (0 : Int) < (i : Int) := by omega
              have h0d : decide (0 < i) = false := by simpa using h0
              have HL2 := Lib.hid (hL.out.trans (HK3.out (fun q hq => by rw [List.eq_nil_of_length_eq_zero (l := ks) (by rw [HKS.out]; omega)] at hq; cases hq)))
              have HS2 := Lib.hid (strs_one ks k)
              have hi1 : i + 1 ≤ 1000000 := by omega
              have hsz1 : w.heap.size + 1 ≤ w1.heap.size := by have := HB1.out.size; have := HZ0.out; omega
              go_wp2_with (at_builtin; refine wpList_append_own _ rfl _ _ 24 rfl (w.heap.size + 1) 9 i0 (.string ⟨#[]⟩) 1 16 Try.underlying24 HI.out HI0.out HI1.out HI2.out rfl (by decide) _ _ _ (by rfl) (HO1.out.alloc _) ⟨w1.heap.size, 0, none⟩ 1 1 [.string ⟨k.toArray⟩] (by rfl) rfl (one_new _ _ _) (one_str _) (by unfold maxLen; omega) (by omega) (by simp; omega) ?_; intro v' w5 hown5 hgrow5 _)
              rw [HS2.out] at hown5
              have HO5 := Lib.hid hown5
              have HB5 := Lib.hid ((HB1.out.alloc hsz1 (.cells #[.string ⟨k.toArray⟩] 9)).grown hgrow5 (by simp; omega) (fun j hj => (HO1.out.lt j hj).1))
              clear hown5 hgrow5
              go_roundw
              case rel => exact ⟨i + 1, ks ++ [k], by go_num, by omega, by rw [List.length_append, HKS.out]; rfl, HO5.out, HB5, Lib.hid (HL2.out)⟩
              case measure => simp [intOf]; omega
        · have hci : ¬ (i : Int) < (n : Int) := by omega
          have HE := Lib.hid (hL.out.trans (keysLeft_end kind ks rows i (by rw [← HN.out]; omega)))
          rw [← HKS.out] at HO
          go_wp2_with fail
          go_ret2
          exact KeysPost.yes HE.out HO.out (Nat.le_succ _) HBw.out
  · have hKK : Hid (K = none) := by
      show _ = _
      rw [HK.out, if_neg (by rw [hbad]; simp)]
    unfold nodeShape at hbad
    simp only [Bool.or_eq_false_iff, Bool.and_eq_false_iff, decide_eq_false_iff_not] at hbad
    have HS : kind = 1 ∧ level ≠ 0 ∨ kind = 2 ∧ level = 0 ∨ kind = 2 ∧ level ≠ 0 ∧ n = 0 ∨ kind ≠ 1 ∧ kind ≠ 2 := by omega
    clear hbad HK
    rcases HS with ⟨hk, hl⟩ | ⟨hk, hl⟩ | ⟨hk, hl, hn1⟩ | ⟨hk, hl⟩
    · have a1 : ((kind : Int) == 1) = true := by simp; omega
      have a2 : ((level : Int) != 0) = true := by simp; omega
      clear hk hl
      go_enter Try.func75, Try.ntmps75
      go_wp2_with fail
      go_ret2
      exact KeysPost.no hKK.out HB0.out
    · have a1 : ((kind : Int) == 1) = false := by simp; omega
      have a3 : ((kind : Int) == 2) = true := by simp; omega
      have a5 : ((level : Int) == 0) = true := by simp; omega
      clear hk hl
      go_enter Try.func75, Try.ntmps75
      go_wp2_with fail
      go_ret2
      exact KeysPost.no hKK.out HB0.out
    · have a1 : ((kind : Int) == 1) = false := by simp; omega
      have a3 : ((kind : Int) == 2) = true := by simp; omega
      have a5 : ((level : Int) == 0) = false := by simp; omega
      have a6 : ((n : Int) == 0) = true := by simp; omega
      clear hk hl hn1
      go_enter Try.func75, Try.ntmps75
      go_wp2_with fail
      go_ret2
      exact KeysPost.no hKK.out HB0.out
    · have a1 : ((kind : Int) == 1) = false := by simp; omega
      have a3 : ((kind : Int) == 2) = false := by simp; omega
      have a4 : ((kind : Int) != 1) = true := by simp; omega
      have a7 : ((kind : Int) != 2) = true := by simp; omega
      clear hk hl
      go_enter Try.func75, Try.ntmps75
      go_wp2_with fail
      go_ret2
      exact KeysPost.no hKK.out HB0.out

end Go.Proofs.Ytjcfnfpilladfaa
