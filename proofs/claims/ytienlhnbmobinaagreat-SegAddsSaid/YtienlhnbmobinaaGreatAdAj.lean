/- Kept of our texts for this claim: UndoRefDecode -/
import Derived.Test.YtienlhnbmobinaaGreatRows
import Derived.Test.YtienlhnbmobinaaGreatAdAi
import Derived.Test.YtienlhnbmobinaaGreatAdAh
import Derived.Test.YtienlhnbmobinaaGreatAdAg
import Derived.WalkKit
import Derived.WalkLawsBesides
import Derived.WalkSpells
import Derived.LoopTactic
import Derived.WalkMore
import Derived.LoopN
import Derived.Laws.BitsAllLaws
import Derived.Laws.IdiomStrings
import Derived.BigQuiet
import Derived.Deep.QuietTactic
import Derived.Deep.DeepCutAuto
import Derived.Deep.RegionHeld3
import Derived.Deep.DrawnRows
import Derived.Lib.Hide
import Derived.Outline
import Derived.Deep.DeepMust
import Derived.Handy
section
/- The reference's Decode of undo records: any bytes -/
namespace Go.Proofs.YtienlhnbmobinaaGreat
open Go.RowKit
set_option linter.unusedVariables false
set_option linter.unusedSimpArgs false
theorem refUget_any (s : ByteArray) (a k : Nat) (w : World) (hs : s.size ≤ 1000000) (ha : a ≤ 2000000) (h1 : 1 ≤ k) (h8 : k ≤ 8) :
    Calls Tryz.prog 50 #[.string s, .int .i64 a, .int .i64 k] w fun e w' => e = .returned (.int .u64 (rdNum s.data.toList a k)) ∧ w = w' := by
  have C := Lib.hid fun W => refGet_any s a k W hs ha h1 h8
  clear hs ha h1 h8
  go_enter Tryz.func50, Tryz.ntmps50
  go_wp2_with fail
  refine (C.out _).mono ?_
  rintro e w1 ⟨rfl, rfl⟩
  go_wp2_with fail
  go_ret
  exact ⟨rfl, rfl⟩
/-- Two blocks of the reference's Decode: the result's, and the record's. -/
structure RSt (g X : Nat) (w0 : World) (cs : Array Value) (w : World) : Prop where
  below : Below g w0 w
  lt : g < X
  res : w.heap[g]? = some (.cells #[.int .u8 0, .int .u64 0, .int .u32 0, .int .u16 0, .string ⟨#[]⟩, .string ⟨#[]⟩, .bool false, .int .u64 0, .int .u32 0, .int .u16 0, .string ⟨#[]⟩, .int .i64 0] 34 (0, 0))
  own : w.heap[X]? = some (.cells cs 34 (0, 0))
theorem RSt.step {g X : Nat} {w0 w w' : World} {cs : Array Value} (h : RSt g X w0 cs w) (hb : Below w.heap.size w w') : RSt g X w0 cs w' :=
  ⟨h.below.trans (hb.mono (Nat.le_of_lt (blk_lt h.res))), h.lt, (hb.block _ (blk_lt h.res)).trans h.res, (hb.block _ (blk_lt h.own)).trans h.own⟩
theorem RSt.set {g X : Nat} {w0 w : World} {cs : Array Value} (h : RSt g X w0 cs w) (j : Nat) (v : Value) : RSt g X w0 (cs.setIfInBounds j v) (w.setCell ⟨X, j, none⟩ v) :=
  ⟨h.below.setCell (Nat.le_of_lt h.lt) v, h.lt, set_keep h.res (Nat.ne_of_lt h.lt), blk_set h.own j v⟩
theorem RSt.alloc {g X : Nat} {w0 w : World} {cs : Array Value} (h : RSt g X w0 cs w) (o : Obj) : RSt g X w0 cs (w.alloc o) :=
  ⟨h.below.alloc (Nat.le_of_lt (blk_lt h.res)) o, h.lt, heap_keep h.res, heap_keep h.own⟩
theorem wsz (l : List UInt8) : (wK l).size ≤ 48 ∧ (wV l).size ≤ 96 ∧ (uK l).size ≤ l.length + 48 ∧ wT l < 256 ^ 8 ∧ wS l < 256 ^ 2 := by
  have hu : uHas l = true → decOk (l.drop 15) = true := by unfold uHas; simp
  have b1 := rdNum_ltR (l.drop 15) 1 8
  have b2 := rdNum_ltR (l.drop 15) 13 2
  refine ⟨?_, ?_, ?_, ?_, ?_⟩
  · unfold wK
    split
    · next h => have := decOk_may (hu h); show (dK (l.drop 15)).toArray.size ≤ 48; simpa using this.1
    · decide
  · unfold wV
    split
    · next h => have := decOk_may (hu h); show (dV (l.drop 15)).toArray.size ≤ 96; simpa using this.2
    · decide
  · unfold uK
    split
    · split
      · next h => have := decOk_may h; show (dK (l.drop 15)).toArray.size ≤ _; simp; omega
      · show 0 ≤ _; omega
    · show (l.drop 15).toArray.size ≤ _
      simp
      omega
  · unfold wT
    split
    · exact b1
    · decide
  · unfold wS
    split
    · exact b2
    · decide
set_option maxHeartbeats 4000000 in
set_option maxRecDepth 100000 in
theorem refUndoDecode_in (s : ByteArray) (n1 n2 n3 n4 : Nat) (w : World) (hs : s.size ≤ 400) (h15 : 15 ≤ s.size) (l3 : n3 < 4294967296) (l4 : n4 < 65536)
    (C2 : Hid (∀ W, Calls Tryz.prog 50 #[.string s, .int .i64 1, .int .i64 8] W fun e w' => e = .returned (.int .u64 n2) ∧ W = w'))
    (C3 : Hid (∀ W, Calls Tryz.prog 50 #[.string s, .int .i64 9, .int .i64 4] W fun e w' => e = .returned (.int .u64 n3) ∧ W = w'))
    (C4 : Hid (∀ W, Calls Tryz.prog 50 #[.string s, .int .i64 13, .int .i64 2] W fun e w' => e = .returned (.int .u64 n4) ∧ W = w'))
    (E1 : Hid (rdNum s.data.toList 0 1 = n1)) (E2 : Hid (rdNum s.data.toList 1 8 = n2)) (E3 : Hid (rdNum s.data.toList 9 4 = n3)) (E4 : Hid (rdNum s.data.toList 13 2 = n4)) :
    Calls Tryz.prog 31 #[.string s] w fun e w' => e = .returned (decUV s.data.toList) ∧ Below w.heap.size w w' := by
  have v3 : IntKind.u32.wrap (n3 : Int) = n3 := IntWalk.u32_in _ ⟨by omega, by omega⟩
  have v4 : IntKind.u16.wrap (n4 : Int) = n4 := IntWalk.u16_in _ ⟨by omega, by omega⟩
  have hp : 0 < s.size := by omega
  have hlen : s.data.toList.length = s.size := by simp
  have hq : (s[0].toNat : Int) = (n1 : Int) := by rw [rd_first s hp, E1.out]
  have Hq := Lib.hid hq
  have hD : Hid (decUV s.data.toList = if mayUndo n1 n2 n3 n4 (uK s.data.toList) (wK s.data.toList) (wM s.data.toList) (wT s.data.toList) (wP s.data.toList) (wS s.data.toList) (wV s.data.toList) (wD s.data.toList) then .tuple #[.agg #[.int .u8 n1, .int .u64 n2, .int .u32 n3, .int .u16 n4, .string (uK s.data.toList), .string (wK s.data.toList), .bool (wM s.data.toList), .int .u64 (wT s.data.toList), .int .u32 (wP s.data.toList), .int .u16 (wS s.data.toList), .string (wV s.data.toList), .int .i64 (wD s.data.toList)], .int .i64 0] else zUV) := by
    have h := decUV_eq (l := s.data.toList) (by omega)
    rwa [E1.out, E2.out, E3.out, E4.out] at h
  have hB : Hid (mayUndo n1 n2 n3 n4 (uK s.data.toList) (wK s.data.toList) (wM s.data.toList) (wT s.data.toList) (wP s.data.toList) (wS s.data.toList) (wV s.data.toList) (wD s.data.toList) = true → encUndo n1 n2 n3 n4 (uK s.data.toList).data.toList (wK s.data.toList).data.toList (wM s.data.toList) (wT s.data.toList) (wP s.data.toList) (wS s.data.toList) (wV s.data.toList).data.toList (wD s.data.toList) = s.data.toList) := by
    intro hm
    have h : decUOk s.data.toList = true := by
      unfold decUOk
      rw [E1.out, E2.out, E3.out, E4.out, hm, decide_eq_true (by omega)]
      rfl
    have hb := encU_back h
    rwa [E1.out, E2.out, E3.out, E4.out] at hb
  clear hq
  go_enter Tryz.func31, Tryz.ntmps31
  go_upto_region 3 with fail
  generalize hw0 : w.alloc (Obj.cells _ _) = w0
  go_cut [4] (fun s4 w' => s4 = .pointer (some ⟨w0.heap.size, 0, none⟩) ∧ w' = (w0.alloc (.cells #[.int .u8 s[0].toNat, .int .u64 n2, .int .u32 n3, .int .u16 n4, .string ⟨#[]⟩, .string ⟨#[]⟩, .bool false, .int .u64 0, .int .u32 0, .int .u16 0, .string ⟨#[]⟩, .int .i64 0] 34)).drew)
  case first =>
    go_region_held3 (fun w' => True) (trivial)
      (first
        | (go_at_call_of 50 (Value.int .i64 8); refine (C2.out _).mono ?_; rintro e w1 ⟨rfl, rfl⟩)
        | (go_at_call_of 50 (Value.int .i64 4); refine (C3.out _).mono ?_; rintro e w1 ⟨rfl, rfl⟩)
        | (go_at_call_of 50 (Value.int .i64 2); refine (C4.out _).mono ?_; rintro e w1 ⟨rfl, rfl⟩))
    all_goals go_wp2_with fail
    all_goals go_meet
    all_goals exact ⟨rfl, rfl⟩
  case rest =>
    obtain ⟨rfl, hw1⟩ := hcut
    rw [Hq.out] at hw1
    subst hw1
    have h0 : RSt w.heap.size w0.heap.size w #[.int .u8 n1, .int .u64 n2, .int .u32 n3, .int .u16 n4, .string ⟨#[]⟩, .string ⟨#[]⟩, .bool false, .int .u64 0, .int .u32 0, .int .u16 0, .string ⟨#[]⟩, .int .i64 0] (w0.alloc (.cells #[.int .u8 n1, .int .u64 n2, .int .u32 n3, .int .u16 n4, .string ⟨#[]⟩, .string ⟨#[]⟩, .bool false, .int .u64 0, .int .u32 0, .int .u16 0, .string ⟨#[]⟩, .int .i64 0] 34)).drew := by
      rw [← hw0]
      exact ⟨(((Below.refl _ _).alloc (Nat.le_refl _) _).alloc (by simp) _).drew, by simp, heap_keep (heap_alloc_new w _), heap_alloc_new (w.alloc (.cells #[.int .u8 0, .int .u64 0, .int .u32 0, .int .u16 0, .string ⟨#[]⟩, .string ⟨#[]⟩, .bool false, .int .u64 0, .int .u32 0, .int .u16 0, .string ⟨#[]⟩, .int .i64 0] 34)) (.cells #[.int .u8 n1, .int .u64 n2, .int .u32 n3, .int .u16 n4, .string ⟨#[]⟩, .string ⟨#[]⟩, .bool false, .int .u64 0, .int .u32 0, .int .u16 0, .string ⟨#[]⟩, .int .i64 0] 34)⟩
    clear hw0 C2 C3 C4 v3 v4
    generalize (w0.alloc (.cells #[.int .u8 n1, .int .u64 n2, .int .u32 n3, .int .u16 n4, .string ⟨#[]⟩, .string ⟨#[]⟩, .bool false, .int .u64 0, .int .u32 0, .int .u16 0, .string ⟨#[]⟩, .int .i64 0] 34)).drew = W0 at *
    generalize w0.heap.size = X at *
    have H0 := Lib.hid h0
    clear h0
    have c0 := blk_cell H0.out.own 0
    have c4 := blk_cell H0.out.own 4
    have c5 := blk_cell H0.out.own 5
    have c6 := blk_cell H0.out.own 6
    have c7 := blk_cell H0.out.own 7
    have c8 := blk_cell H0.out.own 8
    have c9 := blk_cell H0.out.own 9
    have c10 := blk_cell H0.out.own 10
    have c11 := blk_cell H0.out.own 11
    have f4 := blk_frozen H0.out.own 4
    have f5 := blk_frozen H0.out.own 5
    have f6 := blk_frozen H0.out.own 6
    have f7 := blk_frozen H0.out.own 7
    have f8 := blk_frozen H0.out.own 8
    have f9 := blk_frozen H0.out.own 9
    have f10 := blk_frozen H0.out.own 10
    have f11 := blk_frozen H0.out.own 11
    obtain ⟨y, hy⟩ : ∃ y, s.extract 15 s.size = y := ⟨_, rfl⟩
    have hy' : y = ⟨(s.data.toList.drop 15).toArray⟩ := by
      rw [← hy]
      apply bytes_ext
      rw [Lib.extract_data]
      exact List.take_of_length_le (by simp)
    have Hy := Lib.hid hy'
    have zy : y.size ≤ 400 := by rw [← hy]; simp; omega
    clear hy'
    have hsz := wsz s.data.toList
    have REC : Hid (∀ W, RSt w.heap.size X w #[.int .u8 n1, .int .u64 n2, .int .u32 n3, .int .u16 n4, .string (uK s.data.toList), .string (wK s.data.toList), .bool (wM s.data.toList), .int .u64 (wT s.data.toList), .int .u32 (wP s.data.toList), .int .u16 (wS s.data.toList), .string (wV s.data.toList), .int .i64 (wD s.data.toList)] W → RSt w.heap.size X w #[.int .u8 n1, .int .u64 n2, .int .u32 n3, .int .u16 n4, .string (uK s.data.toList), .string (wK s.data.toList), .bool (wM s.data.toList), .int .u64 (wT s.data.toList), .int .u32 (wP s.data.toList), .int .u16 (wS s.data.toList), .string (wV s.data.toList), .int .i64 (wD s.data.toList)] W) := fun _ h => h
    go_upto_if 30 with fail
    go_cut [4] (fun s4 w' => s4 = .pointer (some ⟨X, 0, none⟩) ∧ RSt w.heap.size X w #[.int .u8 n1, .int .u64 n2, .int .u32 n3, .int .u16 n4, .string (uK s.data.toList), .string (wK s.data.toList), .bool (wM s.data.toList), .int .u64 (wT s.data.toList), .int .u32 (wP s.data.toList), .int .u16 (wS s.data.toList), .string (wV s.data.toList), .int .i64 (wD s.data.toList)] w')
    case first =>
      clear hD hB hsz
      by_cases hk : n1 = 2
      · subst hk
        have hw := decV_w (l := s.data.toList) E1.out
        have hwk := hw.2
        have R0 := fun W => refDecode_any y W (by omega)
        rw [show y.data.toList = s.data.toList.drop 15 by rw [Hy.out], hw.1] at R0
        generalize (if decOk (List.drop 15 s.data.toList) = true then (0 : Int) else 7) = ec at R0
        have HWK := Lib.hid hwk
        have R := Lib.hid R0
        clear R0 hw hwk REC
        generalize wK s.data.toList = k at *
        generalize wM s.data.toList = m at *
        generalize wT s.data.toList = t at *
        generalize wP s.data.toList = p at *
        generalize wS s.data.toList = q at *
        generalize wV s.data.toList = v at *
        generalize wD s.data.toList = d at *
        clear c0
        go_wp2_with fail
        refine (R.out _).mono ?_
        rintro e w1 ⟨rfl, h1⟩
        have hR := heap_alloc_new w1 (.cells #[.string k, .bool m, .int .u64 t, .int .u32 p, .int .u16 q, .string v, .int .i64 d] 32)
        have hX := (H0.out.step h1).alloc (.cells #[.string k, .bool m, .int .u64 t, .int .u32 p, .int .u16 q, .string v, .int .i64 d] 32)
        have hne : w1.heap.size ≠ X := by have := blk_lt H0.out.own; have := h1.size; omega
        clear h1 c4 c5 c6 c7 c8 c9 c10 c11 f4 f5 f6 f7 f8 f9 f10 f11
        go_upto_region 6 with fail
        generalize w1.alloc (.cells #[.string k, .bool m, .int .u64 t, .int .u32 p, .int .u16 q, .string v, .int .i64 d] 32) = W1 at *
        generalize w1.heap.size = Y at *
        have HX := Lib.hid hX
        have HR := Lib.hid hR
        clear hX hR H0
        have t0 := blk_cell HR.out 0
        have t1 := blk_cell HR.out 1
        have t2 := blk_cell HR.out 2
        have t3 := blk_cell HR.out 3
        have t4 := blk_cell HR.out 4
        have t5 := blk_cell HR.out 5
        have t6 := blk_cell HR.out 6
        have c4 := blk_cell HX.out.own 4
        have c5 := blk_cell HX.out.own 5
        have c6 := blk_cell HX.out.own 6
        have c7 := blk_cell HX.out.own 7
        have c8 := blk_cell HX.out.own 8
        have c9 := blk_cell HX.out.own 9
        have c10 := blk_cell HX.out.own 10
        have c11 := blk_cell HX.out.own 11
        have f4 := blk_frozen HX.out.own 4
        have f5 := blk_frozen HX.out.own 5
        have f6 := blk_frozen HX.out.own 6
        have f7 := blk_frozen HX.out.own 7
        have f8 := blk_frozen HX.out.own 8
        have f9 := blk_frozen HX.out.own 9
        have f10 := blk_frozen HX.out.own 10
        have f11 := blk_frozen HX.out.own 11
        go_upto_region 7 with fail
        have hX2 := ((((((HX.out.set 5 (.string k)).set 6 (.bool m)).set 7 (.int .u64 t)).set 8 (.int .u32 p)).set 9 (.int .u16 q)).set 10 (.string v)).set 11 (.int .i64 d)
        have hR2 := set_keep (j := 11) (u := .int .i64 d) (set_keep (j := 10) (u := .string v) (set_keep (j := 9) (u := .int .u16 q) (set_keep (j := 8) (u := .int .u32 p) (set_keep (j := 7) (u := .int .u64 t) (set_keep (j := 6) (u := .bool m) (set_keep (j := 5) (u := .string k) HR.out hne) hne) hne) hne) hne) hne) hne
        simp only [List.setIfInBounds_toArray, List.set_cons_zero, List.set_cons_succ] at hX2
        clear t0 t1 t2 t3 t4 t5 t6 c4 f4 c5 f5 c6 f6 c7 f7 c8 f8 c9 f9 c10 f10 c11 f11
        generalize (((((((W1.setCell ⟨X, 5, none⟩ (.string k)).setCell ⟨X, 6, none⟩ (.bool m)).setCell ⟨X, 7, none⟩ (.int .u64 t)).setCell ⟨X, 8, none⟩ (.int .u32 p)).setCell ⟨X, 9, none⟩ (.int .u16 q)).setCell ⟨X, 10, none⟩ (.string v)).setCell ⟨X, 11, none⟩ (.int .i64 d)) = W2 at *
        have t0 := blk_cell hR2 0
        have c4 := blk_cell hX2.own 4
        have f4 := blk_frozen hX2.own 4
        have H2 := Lib.hid (hX2.set 4 (.string k))
        clear hX2 hR2 HX HR
        go_wp2_with fail
        go_meet
        exact ⟨rfl, by rw [HWK.out]; exact H2.out⟩
      · have e0 : ((n1 : Int) == 2) = false := by simp; omega
        obtain ⟨u1, u2, u3, u4, u5, u6, u7, u8⟩ := wnew (l := s.data.toList) (by rw [E1.out]; exact hk)
        have UU := Lib.hid (And.intro u1 (And.intro u2 (And.intro u3 (And.intro u4 (And.intro u5 (And.intro u6 (And.intro u7 u8)))))))
        clear u1 u2 u3 u4 u5 u6 u7 u8 REC
        have H2 := Lib.hid (H0.out.set 4 (.string y))
        go_wp2_with fail
        go_meet
        obtain ⟨u1, u2, u3, u4, u5, u6, u7, u8⟩ := UU.out
        exact ⟨rfl, by rw [u1, u2, u3, u4, u5, u6, u7, u8, ← Hy.out]; exact H2.out⟩
    case rest =>
      obtain ⟨rfl, hX⟩ := hcut
      clear REC c0 c4 f4 c5 f5 c6 f6 c7 f7 c8 f8 c9 f9 c10 f10 c11 f11 hy Hy zy H0
      generalize uK s.data.toList = y at *
      generalize wK s.data.toList = k at *
      generalize wM s.data.toList = m at *
      generalize wT s.data.toList = t at *
      generalize wP s.data.toList = p at *
      generalize wS s.data.toList = q at *
      generalize wV s.data.toList = v at *
      generalize wD s.data.toList = d at *
      obtain ⟨z1, z2, z3, z4, z5⟩ := hsz
      have z3 : y.size ≤ 448 := by omega
      have l2 : n2 < 256 ^ 8 := by rw [← E2.out]; exact rdNum_ltR s.data.toList 1 8
      have M := Lib.hid fun W => refUndoMay_any n1 n2 n3 n4 y k v m t p q d W (by unfold maxLen; omega) (by unfold maxLen; omega) (by unfold maxLen; omega)
      have HX := Lib.hid hX
      have hq1 : (s.toList == s.toList) = true := by simp
      have hq2 : (s.toList != s.toList) = false := by simp
      clear hX Hq E1 E2 E3 E4 hlen
      have c0 := blk_cell HX.out.own 0
      have c1 := blk_cell HX.out.own 1
      have c2 := blk_cell HX.out.own 2
      have c3 := blk_cell HX.out.own 3
      have c4 := blk_cell HX.out.own 4
      have c5 := blk_cell HX.out.own 5
      have c6 := blk_cell HX.out.own 6
      have c7 := blk_cell HX.out.own 7
      have c8 := blk_cell HX.out.own 8
      have c9 := blk_cell HX.out.own 9
      have c10 := blk_cell HX.out.own 10
      have c11 := blk_cell HX.out.own 11
      cases hb : mayUndo n1 n2 n3 n4 y k m t p q v d with
      | false =>
        rw [hb] at M hD
        have HD := Lib.hid hD.out
        clear hD hB hb
        go_wp2_with fail
        refine (M.out _).mono ?_
        rintro e w9 ⟨rfl, hb9⟩
        have H9 := Lib.hid (HX.out.step hb9)
        clear hb9 HX M c0 c1 c2 c3 c4 c5 c6 c7 c8 c9 c10 c11
        have r0 := blk_cell H9.out.res 0
        have r1 := blk_cell H9.out.res 1
        have r2 := blk_cell H9.out.res 2
        have r3 := blk_cell H9.out.res 3
        have r4 := blk_cell H9.out.res 4
        have r5 := blk_cell H9.out.res 5
        have r6 := blk_cell H9.out.res 6
        have r7 := blk_cell H9.out.res 7
        have r8 := blk_cell H9.out.res 8
        have r9 := blk_cell H9.out.res 9
        have r10 := blk_cell H9.out.res 10
        have r11 := blk_cell H9.out.res 11
        have g0 := blk_frozen H9.out.res 0
        have g1 := blk_frozen H9.out.res 1
        have g2 := blk_frozen H9.out.res 2
        have g3 := blk_frozen H9.out.res 3
        have g4 := blk_frozen H9.out.res 4
        have g5 := blk_frozen H9.out.res 5
        have g6 := blk_frozen H9.out.res 6
        have g7 := blk_frozen H9.out.res 7
        have g8 := blk_frozen H9.out.res 8
        have g9 := blk_frozen H9.out.res 9
        have g10 := blk_frozen H9.out.res 10
        have g11 := blk_frozen H9.out.res 11
        go_wp2_with fail
        have qq := undo_res H9.out.res (.int .u8 0) (.int .u64 0) (.int .u32 0) (.int .u16 0) (.string ⟨#[]⟩) (.string ⟨#[]⟩) (.bool false) (.int .u64 0) (.int .u32 0) (.int .u16 0) (.string ⟨#[]⟩) (.int .i64 0)
        obtain ⟨q0, q1, q2, q3, q4, q5, q6, q7, q8, q9, q10, q11⟩ := qq
        refine bodyPost_ret (v := zUV) (by simp [zUV, results, Tryz.results31, go_sem, q0, q1, q2, q3, q4, q5, q6, q7, q8, q9, q10, q11]) rfl ⟨?_, undo_below H9.out.below (Nat.le_refl _) (.int .u8 0) (.int .u64 0) (.int .u32 0) (.int .u16 0) (.string ⟨#[]⟩) (.string ⟨#[]⟩) (.bool false) (.int .u64 0) (.int .u32 0) (.int .u16 0) (.string ⟨#[]⟩) (.int .i64 0)⟩
        exact congrArg Ending.returned HD.out.symm
      | true =>
        have hbk := hB.out hb
        have hs2 : (⟨(encUndo n1 n2 n3 n4 y.data.toList k.data.toList m t p q v.data.toList d).toArray⟩ : ByteArray) = s := by rw [hbk]
        have E0 : ∀ W, Calls Tryz.prog 6 #[.agg #[.int .u8 n1, .int .u64 n2, .int .u32 n3, .int .u16 n4, .string y, .string k, .bool m, .int .u64 t, .int .u32 p, .int .u16 q, .string v, .int .i64 d]] W fun e w' => e = .returned (.string s) ∧ Below W.heap.size W w' := by
          intro W
          have hkk := (mayUndo_kind hb).2
          rcases hkk with ⟨h1, _⟩ | ⟨h2, _, hr⟩
          · have h := refUndoEncode_1 n1 n2 n3 n4 y k v m t p q d W (by unfold maxLen; omega) (by unfold maxLen; omega) (by unfold maxLen; omega) l2 (by omega) z4 z5 h1 hb
            rwa [hs2] at h
          · have hd0 := (mayRow_iff.1 hr).2.2.1
            obtain ⟨dd, hdd⟩ := Int.eq_ofNat_of_zero_le hd0
            subst hdd
            have h := refUndoEncode_2 n1 n2 n3 n4 y k v m t p q dd W (by unfold maxLen; omega) (by unfold maxLen; omega) (by unfold maxLen; omega) l2 (by omega) z4 z5 h2 hb
            rwa [hs2] at h
        rw [hb] at M hD
        have HD := Lib.hid hD.out
        have EE := Lib.hid E0
        clear hD hB hb hbk hs2 E0
        go_wp2_with fail
        refine (M.out _).mono ?_
        rintro e w9 ⟨rfl, hb9⟩
        have H9 := Lib.hid (HX.out.step hb9)
        clear hb9 HX M c0 c1 c2 c3 c4 c5 c6 c7 c8 c9 c10 c11
        have c0 := blk_cell H9.out.own 0
        have c1 := blk_cell H9.out.own 1
        have c2 := blk_cell H9.out.own 2
        have c3 := blk_cell H9.out.own 3
        have c4 := blk_cell H9.out.own 4
        have c5 := blk_cell H9.out.own 5
        have c6 := blk_cell H9.out.own 6
        have c7 := blk_cell H9.out.own 7
        have c8 := blk_cell H9.out.own 8
        have c9 := blk_cell H9.out.own 9
        have c10 := blk_cell H9.out.own 10
        have c11 := blk_cell H9.out.own 11
        go_wp2_with fail
        refine (EE.out _).mono ?_
        rintro e w10 ⟨rfl, hb10⟩
        have H10 := Lib.hid (H9.out.step hb10)
        clear hb10 H9 EE c0 c1 c2 c3 c4 c5 c6 c7 c8 c9 c10 c11
        have c0 := blk_cell H10.out.own 0
        have c1 := blk_cell H10.out.own 1
        have c2 := blk_cell H10.out.own 2
        have c3 := blk_cell H10.out.own 3
        have c4 := blk_cell H10.out.own 4
        have c5 := blk_cell H10.out.own 5
        have c6 := blk_cell H10.out.own 6
        have c7 := blk_cell H10.out.own 7
        have c8 := blk_cell H10.out.own 8
        have c9 := blk_cell H10.out.own 9
        have c10 := blk_cell H10.out.own 10
        have c11 := blk_cell H10.out.own 11
        have r0 := blk_cell H10.out.res 0
        have r1 := blk_cell H10.out.res 1
        have r2 := blk_cell H10.out.res 2
        have r3 := blk_cell H10.out.res 3
        have r4 := blk_cell H10.out.res 4
        have r5 := blk_cell H10.out.res 5
        have r6 := blk_cell H10.out.res 6
        have r7 := blk_cell H10.out.res 7
        have r8 := blk_cell H10.out.res 8
        have r9 := blk_cell H10.out.res 9
        have r10 := blk_cell H10.out.res 10
        have r11 := blk_cell H10.out.res 11
        have g0 := blk_frozen H10.out.res 0
        have g1 := blk_frozen H10.out.res 1
        have g2 := blk_frozen H10.out.res 2
        have g3 := blk_frozen H10.out.res 3
        have g4 := blk_frozen H10.out.res 4
        have g5 := blk_frozen H10.out.res 5
        have g6 := blk_frozen H10.out.res 6
        have g7 := blk_frozen H10.out.res 7
        have g8 := blk_frozen H10.out.res 8
        have g9 := blk_frozen H10.out.res 9
        have g10 := blk_frozen H10.out.res 10
        have g11 := blk_frozen H10.out.res 11
        go_wp2_with fail
        have qq := undo_res H10.out.res (.int .u8 n1) (.int .u64 n2) (.int .u32 n3) (.int .u16 n4) (.string y) (.string k) (.bool m) (.int .u64 t) (.int .u32 p) (.int .u16 q) (.string v) (.int .i64 d)
        obtain ⟨q0, q1, q2, q3, q4, q5, q6, q7, q8, q9, q10, q11⟩ := qq
        refine bodyPost_ret (v := .tuple #[.agg #[.int .u8 n1, .int .u64 n2, .int .u32 n3, .int .u16 n4, .string y, .string k, .bool m, .int .u64 t, .int .u32 p, .int .u16 q, .string v, .int .i64 d], .int .i64 0]) (by simp [results, Tryz.results31, go_sem, q0, q1, q2, q3, q4, q5, q6, q7, q8, q9, q10, q11]) rfl ⟨?_, undo_below H10.out.below (Nat.le_refl _) (.int .u8 n1) (.int .u64 n2) (.int .u32 n3) (.int .u16 n4) (.string y) (.string k) (.bool m) (.int .u64 t) (.int .u32 p) (.int .u16 q) (.string v) (.int .i64 d)⟩
        exact congrArg Ending.returned HD.out.symm
theorem refUndoDecode_out (s : ByteArray) (w : World) (hs : s.size < 15 ∨ 400 < s.size) (hm : s.size ≤ 1000000) :
    Calls Tryz.prog 31 #[.string s] w fun e w' => e = .returned (decUV s.data.toList) ∧ Below w.heap.size w w' := by
  have hlen : s.data.toList.length = s.size := by simp
  have hD : Hid (decUV s.data.toList = zUV) := by
    rcases hs with h | h
    · exact decUV_short (by omega)
    · exact decUV_long (by omega)
  clear hlen
  rcases hs with h | h
  · go_enter Tryz.func31, Tryz.ntmps31
    go_wp2_with fail
    refine bodyPost_ret (v := zUV) (by simp [zUV, results, Tryz.results31, go_sem]) rfl ⟨?_, (Below.refl _ _).alloc (Nat.le_refl _) _⟩
    exact congrArg Ending.returned hD.out.symm
  · go_enter Tryz.func31, Tryz.ntmps31
    go_wp2_with fail
    refine bodyPost_ret (v := zUV) (by simp [zUV, results, Tryz.results31, go_sem]) rfl ⟨?_, (Below.refl _ _).alloc (Nat.le_refl _) _⟩
    exact congrArg Ending.returned hD.out.symm
theorem refUndoDecode_any (s : ByteArray) (w : World) (hs : s.size ≤ 1000000) :
    Calls Tryz.prog 31 #[.string s] w fun e w' => e = .returned (decUV s.data.toList) ∧ Below w.heap.size w w' := by
  by_cases h : 15 ≤ s.size ∧ s.size ≤ 400
  · have l3 := rdNum_ltR s.data.toList 9 4
    have l4 := rdNum_ltR s.data.toList 13 2
    simp only [Nat.reducePow] at l3 l4
    exact refUndoDecode_in s _ _ _ _ w h.2 h.1 l3 l4 (Lib.hid fun W => refUget_any s 1 8 W hs (by omega) (by omega) (by omega)) (Lib.hid fun W => refUget_any s 9 4 W hs (by omega) (by omega) (by omega)) (Lib.hid fun W => refUget_any s 13 2 W hs (by omega) (by omega) (by omega)) rfl rfl rfl rfl
  · exact refUndoDecode_out s w (by omega) hs
end Go.Proofs.YtienlhnbmobinaaGreat
end
