/- chapter 02: sums and sealed texts -/
import Derived.Test.YtienlhnbmobinaaRows
import Derived.Test.YtienlhnbmobinaaBase
import Derived.Test.YtienlhnbmobinaaPlains
import Derived.Test.YtienlhnbmobinaaCrc
import Derived.Deep.CutBlock
import Derived.WalkKit
import Derived.WalkLawsBesides
import Derived.WalkSpells
import Derived.LoopTactic
import Derived.WalkMore
import Derived.LoopN
import Derived.Laws.BitsAllLaws
import Derived.Laws.IdiomStrings
import Derived.BigQuiet
import Derived.Deep.QuietTactic
import Derived.Deep.DeepCutAuto
import Derived.Deep.RegionHeld3
import Derived.Deep.DrawnRows
import Derived.Lib.Hide
import Derived.Outline
import Derived.Deep.DeepMust
import Derived.Handy
namespace Go.Proofs.Ytienlhnbmobinaa
open Go.RowKit
set_option linter.unusedVariables false
set_option linter.unusedSimpArgs false

def tabN (i : Nat) : Nat := (csteps 8 (BitVec.ofNat 32 i)).toNat
theorem tabN_lt (i : Nat) : tabN i < 4294967296 := (csteps 8 (BitVec.ofNat 32 i)).isLt
def tabCells : Array Value := (Array.range 256).map fun i => .int .u32 (tabN i)
theorem tab_size : tabCells.size = 256 := by unfold tabCells; simp
theorem tab_get (i : Nat) (h : i < 256) : tabCells[i]? = some (.int .u32 (tabN i)) := by unfold tabCells; simp [h]
/-- The table, as far as it is filled. -/
def TabAt (w : World) (g k : Nat) : Prop := ∃ cs : Array Value, w.heap[g]? = some (.cells cs 229 (0, 0)) ∧ cs.size = 256 ∧ ∀ i, i < 256 → cs[i]? = some (.int .u32 (if i < k then tabN i else 0))
theorem TabAt.cell {w : World} {g k : Nat} (h : TabAt w g k) (i : Nat) (hi : i < 256) : w.cell? ⟨g, i, none⟩ = some (.int .u32 (if i < k then tabN i else 0)) := by
  obtain ⟨cs, h1, h2, h3⟩ := h
  rw [blk_cell h1]; exact h3 i hi
theorem TabAt.frozen {w : World} {g k : Nat} (h : TabAt w g k) (i : Nat) : w.frozen? ⟨g, i, none⟩ = false := by
  obtain ⟨cs, h1, h2, h3⟩ := h
  exact blk_frozen h1 i
theorem TabAt.lt {w : World} {g k : Nat} (h : TabAt w g k) : g < w.heap.size := by
  obtain ⟨cs, h1, h2, h3⟩ := h
  exact blk_lt h1
theorem TabAt.set {w : World} {g k : Nat} (h : TabAt w g k) (hk : k < 256) : TabAt (w.setCell ⟨g, k, none⟩ (.int .u32 (tabN k))) g (k + 1) := by
  obtain ⟨cs, h1, h2, h3⟩ := h
  refine ⟨_, blk_set h1 k _, by simpa using h2, fun i hi => ?_⟩
  by_cases hik : k = i
  · subst hik
    rw [Array.getElem?_setIfInBounds_self_of_lt (by omega), if_pos (by omega)]
  · rw [Array.getElem?_setIfInBounds_ne hik, h3 i hi]
    by_cases h4 : i < k
    · rw [if_pos h4, if_pos (by omega)]
    · rw [if_neg h4, if_neg (by omega)]
theorem TabAt.full {w : World} {g : Nat} (h : TabAt w g 256) : w.heap[g]? = some (.cells tabCells 229 (0, 0)) := by
  obtain ⟨cs, h1, h2, h3⟩ := h
  have : cs = tabCells := by
    apply Array.ext
    · rw [h2, tab_size]
    · intro i hi hj
      have e1 := h3 i (by omega)
      have e2 := tab_get i (by omega)
      rw [if_pos (by omega)] at e1
      rw [Array.getElem?_eq_getElem hi] at e1
      rw [Array.getElem?_eq_getElem hj] at e2
      injection e1 with e1; injection e2 with e2
      rw [e1, e2]
  rw [← this]; exact h1
theorem TabAt.of_full {w : World} {g : Nat} (h : w.heap[g]? = some (.cells tabCells 229 (0, 0))) : TabAt w g 256 :=
  ⟨_, h, tab_size, fun i hi => by rw [if_pos hi]; exact tab_get i hi⟩
theorem tab_zero : (Try.prog.info? 229).map (·.zero) = some (some (.agg (Array.replicate 256 (.int .u32 0)))) := by kernel_rfl
theorem tab_info : (Try.prog.info? 229).map (·.size) = some 256 := by kernel_rfl
theorem wpList_alloc_agg {P : Program} {ops : Array Oper} {rest : List Oper} {o : Oper} {a : Act} {w : World} {Q : Exit → Act → World → Prop} (hgd : o.guard = none) (t : TypeId) (ho : o.op = .alloc t) (cells : Array Value)
    (hz : (P.info? t).map (·.zero) = some (some (.agg cells)))
    (h : wpList P ops Q rest (a.put o.dst (.pointer (some ⟨w.heap.size, 0, none⟩))) (w.alloc (.cells (Value.agg cells).cells t))) : wpList P ops Q (o :: rest) a w := by
  refine wpList_plain hgd fun K hK => ?_
  unfold Oper.wp execOp
  cases hq : P.info? t with
  | none => rw [hq] at hz; simp at hz
  | some i =>
    have hzz : i.zero = some (.agg cells) := by rw [hq] at hz; simpa using hz
    simp [ho, Instr.alloc, zeroValue, typeInfo, hq, hzz, newVar, newRow, Result.andThen, Oper.upon_value]
    exact hK _ _ h
theorem TabAt.new (w : World) : TabAt (w.alloc (.cells (Value.agg (Array.replicate 256 (.int .u32 0))).cells 229)) w.heap.size 0 :=
  ⟨Array.replicate 256 (.int .u32 0), heap_alloc_new w _, Array.size_replicate, fun i hi => by rw [if_neg (Nat.not_lt_zero i), Array.getElem?_replicate, if_pos hi]⟩
/-- A new array of 256 zeros. -/
theorem wpList_alloc_tab {ops : Array Oper} {rest : List Oper} {o : Oper} {a : Act} {w : World} {Q : Exit → Act → World → Prop} (hgd : o.guard = none) (ho : o.op = .alloc 229)
    (h : ∀ W, TabAt W w.heap.size 0 → Below w.heap.size w W → wpList Try.prog ops Q rest (a.put o.dst (.pointer (some ⟨w.heap.size, 0, none⟩))) W) : wpList Try.prog ops Q (o :: rest) a w :=
  wpList_alloc_agg hgd _ ho _ tab_zero (h _ (TabAt.new w) ((Below.refl _ _).alloc (Nat.le_refl _) _))
theorem wrap_u32_mod (x : Nat) : IntKind.u32.wrap (x : Int) = ((x % 4294967296 : Nat) : Int) := by
  simp [IntKind.wrap, IntKind.bits, IntKind.signed]
theorem bits_u32_xor (a b : Nat) (ha : a < 4294967296) (hb : b < 4294967296) : bits .xor .u32 (a : Int) (b : Int) = ((a ^^^ b : Nat) : Int) := by
  show IntKind.u32.wrap ((BitVec.ofInt 32 (a : Int) ^^^ BitVec.ofInt 32 (b : Int)).toNat : Int) = _
  rw [BitVec.toNat_xor, ofInt_u32 a ha, ofInt_u32 b hb, wrap_u32_mod, Nat.mod_eq_of_lt]
  exact Nat.xor_lt_two_pow (n := 32) ha hb
theorem bits_u32_and1 (a : Nat) (ha : a < 4294967296) : bits .and .u32 (a : Int) 1 = ((a % 2 : Nat) : Int) := by
  show IntKind.u32.wrap ((BitVec.ofInt 32 (a : Int) &&& BitVec.ofInt 32 1).toNat : Int) = _
  have h1 : (BitVec.ofInt 32 1).toNat = 1 := by decide
  rw [BitVec.toNat_and, ofInt_u32 a ha, h1, wrap_u32_mod, Nat.and_one_is_mod, Nat.mod_eq_of_lt (by omega)]
theorem cstep_nat (c : BitVec 32) : (cstep c).toNat = (c.toNat / 2) ^^^ (if c.toNat % 2 = 1 then 2197175160 else 0) := by
  unfold cstep
  rw [BitVec.toNat_xor, BitVec.toNat_ushiftRight, Nat.shiftRight_eq_div_pow]
  have : c.getLsbD 0 = decide (c.toNat % 2 = 1) := by rw [BitVec.getLsbD, Nat.testBit_zero]
  rw [this]
  by_cases h : c.toNat % 2 = 1
  · simp [h, poly]
  · simp [h]
/-- The program's step. -/
theorem cstep_int (c : BitVec 32) : bits .xor .u32 ((c.toNat : Int) / 2) (2197175160 * bits .and .u32 (c.toNat : Int) 1 % 4294967296) = ((cstep c).toNat : Int) := by
  have hc := c.isLt
  rw [bits_u32_and1 _ hc, cstep_nat]
  have e : (2197175160 * ((c.toNat % 2 : Nat) : Int) % 4294967296) = (((if c.toNat % 2 = 1 then 2197175160 else 0 : Nat)) : Int) := by
    rcases Nat.mod_two_eq_zero_or_one c.toNat with h | h
    · rw [h]; rfl
    · rw [h]; rfl
  rw [e, show ((c.toNat : Int) / 2) = ((c.toNat / 2 : Nat) : Int) by omega, bits_u32_xor _ _ (by omega) (by split <;> omega)]
theorem tab_u : Try.prog.underlying 229 = some (.array 256 22) := by kernel_rfl
/-- The whole table is loaded. -/
theorem wpList_load_tab {ops : Array Oper} {rest : List Oper} {o : Oper} {a : Act} {w : World} {Q : Exit → Act → World → Prop} (hgd : o.guard = none) (x : Operand) (ho : o.op = .load 229 x) (g : Nat) (hx : a.eval x = .pointer (some ⟨g, 0, none⟩)) (ht : TabAt w g 256)
    (h : wpList Try.prog ops Q rest (a.put o.dst (.agg tabCells)) w) : wpList Try.prog ops Q (o :: rest) a w :=
  wpList_load_row hgd _ x ho g hx _ tabCells _ _ ht.full tab_u rfl (by rw [tab_info, tab_size]) h
theorem tab_one : tabCells.all (·.oneCell') = true := by
  unfold tabCells
  rw [Array.all_eq_true]
  intro i hi
  simp [Value.oneCell']
/-- The whole table is stored. -/
theorem wpList_store_tab {ops : Array Oper} {rest : List Oper} {o : Oper} {a : Act} {w : World} {Q : Exit → Act → World → Prop} (hgd : o.guard = none) (x y : Operand) (ho : o.op = .store 229 x y) (g k : Nat) (hx : a.eval x = .pointer (some ⟨g, 0, none⟩)) (hy : a.eval y = .agg tabCells) (ht : TabAt w g k)
    (h : ∀ W, TabAt W g 256 → w.grownBy W (some g) → wpList Try.prog ops Q rest (a.put o.dst undef) W) : wpList Try.prog ops Q (o :: rest) a w := by
  obtain ⟨cs, h1, h2, h3⟩ := ht
  refine wpList_store_row hgd _ x y ho g tabCells hx hy _ cs h1 (by rw [tab_info, tab_size]) (by rw [h2, tab_size]) tab_one (h _ (TabAt.of_full (setRow_heap w g _ _ _ _ h1)) ⟨rfl, rfl, rfl, by simp, fun j hj hn => setRow_other w g j _ (fun e => hn (by rw [e]))⟩)
theorem grown_new {w w' w'' : World} {g : Nat} (h : Below w.heap.size w w') (h2 : w'.grownBy w'' (some g)) (hg : w.heap.size ≤ g) : Below w.heap.size w w'' := h.grown h2 h.size (fun j hj => by injection hj with e; omega)
set_option maxHeartbeats 4000000 in
theorem table_any (w : World) : Calls Try.prog 212 #[] w fun e w' => e = .returned (.agg tabCells) ∧ Below w.heap.size w w' := by
  go_enter Try.func212, Try.ntmps212
  go_upto_region 0 with fail
  go_wp2_with (refine wpList_alloc_tab rfl rfl ?_; intro wA hA hB; have HA := Lib.hid hA; have HB := Lib.hid hB; clear hA hB)
  go_loopw [1, 2, 3] (fun s1 s2 s3 wr => ∃ (k : Nat), s3 = .int .i64 k ∧ k ≤ 256 ∧ Hid (TabAt wr w.heap.size k) ∧ Hid (Below w.heap.size w wr)) (fun v1 v2 vi _ => 256 - (intOf vi).toNat)
  case atStart => exact ⟨0, rfl, by omega, HA, HB⟩
  case round =>
    obtain ⟨k, rfl, hk, HT, HW⟩ := hrel
    by_cases hlt : k < 256
    · have hki : (k : Int) < 256 := by omega
      go_wp2_with fail
      go_loop [2, 8] (fun s2 s8 => ∃ (j : Nat), s8 = .int .i64 j ∧ j ≤ 8 ∧ s2 = .int .u32 ((csteps j (BitVec.ofNat 32 k)).toNat : Nat)) (fun v2 v8 => 8 - (intOf v8).toNat)
      case atStart => exact ⟨0, rfl, by omega, by show _ = Value.int .u32 (((k % 4294967296 : Nat) : Nat) : Int); rw [Nat.mod_eq_of_lt (by omega)]⟩
      case round =>
        obtain ⟨j, rfl, hj, rfl⟩ := hrel
        by_cases hj8 : j < 8
        · have hji : (j : Int) < 8 := by omega
          generalize hc : csteps j (BitVec.ofNat 32 k) = c
          have HC := Lib.hid hc
          have SI := Lib.hid (cstep_int c)
          have c1 := c.isLt
          clear hc
          go_wp2_with fail
          exact ⟨⟨j + 1, by go_num, by omega, by rw [SI.out]; simp only [csteps, HC.out]⟩, by simp [intOf]; omega⟩
        · obtain rfl : j = 8 := by omega
          have t0 := HT.out.cell k hlt
          rw [if_neg (Nat.lt_irrefl k)] at t0
          have t1 := HT.out.frozen k
          have hgl := HT.out.lt
          go_wp2_with fail
          exact ⟨⟨k + 1, by go_num, by omega, Lib.hid (HT.out.set hlt), Lib.hid (grown_new HW.out (grown_set (grown_refl wr _)) (Nat.le_refl _))⟩, by simp [intOf]; omega⟩
    · obtain rfl : k = 256 := by omega
      go_upto_region 11 with fail
      go_cut [0] (fun s0 w' => s0 = .pointer (some ⟨w.heap.size, 0, none⟩) ∧ Hid (TabAt w' w.heap.size 256) ∧ Hid (Below w.heap.size w w'))
      case first =>
        go_wp2_with (first | refine wpList_load_tab rfl _ rfl _ rfl HT.out ?_ | (refine wpList_store_tab rfl _ _ rfl _ _ rfl rfl HT.out ?_; intro wB hC hD; have HC := Lib.hid hC; have HD := Lib.hid hD; clear hC hD))
        go_meet
        exact ⟨rfl, HC, Lib.hid (grown_new HW.out HD.out (Nat.le_refl _))⟩
      case rest =>
        obtain ⟨rfl, HC, HD⟩ := hcut
        refine (show ∀ (a : Act) (w : World), Code.wp _ Code.ret _ a w → _ from by assumption) _ _ ?_
        apply wp_ret
        refine bodyPost_ret (results_cell_row rfl _ _ w.heap.size _ tabCells _ _ rfl HC.out.full tab_u rfl (by rw [tab_info, tab_size])) rfl ?_
        exact ⟨rfl, HD.out⟩
theorem u8_xor (a b : Nat) (ha : a < 256) (hb : b < 256) : bits .xor .u8 (a : Int) (b : Int) = ((a ^^^ b : Nat) : Int) := by
  show IntKind.u8.wrap ((BitVec.ofInt 8 (a : Int) ^^^ BitVec.ofInt 8 (b : Int)).toNat : Int) = _
  have e : ∀ x : Nat, x < 256 → (BitVec.ofInt 8 (x : Int)).toNat = x := fun x hx => by
    rw [BitVec.toNat_ofInt]; omega
  rw [BitVec.toNat_xor, e a ha, e b hb]
  have := Nat.xor_lt_two_pow (n := 8) (x := a) (y := b) ha hb
  simp [IntKind.wrap, IntKind.bits, IntKind.signed]
  omega
theorem cbyte_nat (c : BitVec 32) (x : UInt8) : bits .xor .u32 (tabN ((c.toNat % 256) ^^^ x.toNat) : Nat) ((c.toNat : Int) / 256) = ((cbyte c x).toNat : Int) := by
  have h := tabN_lt ((c.toNat % 256) ^^^ x.toNat)
  have hc := c.isLt
  rw [show ((c.toNat : Int) / 256) = ((c.toNat / 256 : Nat) : Int) by omega, bits_u32_xor _ _ h (by omega), cbyte_table, BitVec.toNat_xor, BitVec.toNat_ushiftRight, Nat.shiftRight_eq_div_pow]
  rfl
theorem not_int (c : BitVec 32) : bits .xor .u32 IntKind.u32.max (c.toNat : Int) = ((~~~ c).toNat : Int) := by
  have hc := c.isLt
  rw [show IntKind.u32.max = ((4294967295 : Nat) : Int) by decide, bits_u32_xor _ _ (by omega) hc]
  have : ~~~ c = (BitVec.allOnes 32) ^^^ c := by
    refine bv_ext fun i hi => ?_
    rw [BitVec.getLsbD_not, BitVec.getLsbD_xor, BitVec.getLsbD_allOnes]
    cases c.getLsbD i <;> simp [hi]
  rw [this, BitVec.toNat_xor]
  rfl
theorem crc_snoc (c : BitVec 32) (l : List UInt8) (x : UInt8) : crc c (l ++ [x]) = cbyte (crc c l) x := by unfold crc; rw [List.foldl_append]; rfl
theorem TabAt.below {w w' : World} {g k : Nat} (h : TabAt w g k) (hb : Below w.heap.size w w') : TabAt w' g k := by
  obtain ⟨cs, h1, h2, h3⟩ := h
  exact ⟨cs, (hb.block _ (blk_lt h1)).trans h1, h2, h3⟩
set_option maxHeartbeats 4000000 in
set_option maxRecDepth 100000 in
theorem more_any (c : BitVec 32) (s : ByteArray) (w : World) (hs : s.size ≤ maxLen) : Calls Try.prog 192 #[.int .u32 (c.toNat : Nat), .string s] w fun e w' => e = .returned (.int .u32 ((~~~ crc (~~~ c) s.data.toList).toNat : Nat)) ∧ Below w.heap.size w w' := by
  have TB := Lib.hid fun W => table_any W
  unfold maxLen at hs
  go_enter Try.func192, Try.ntmps192
  go_wp2_with fail
  refine (TB.out _).mono ?_
  rintro e w1 ⟨rfl, hb⟩
  have B1 := Lib.hid hb
  clear hb
  go_wp2_with (first | (refine wpList_alloc_tab rfl rfl ?_; intro wA hA hB; have HA := Lib.hid hA; have HB := Lib.hid hB; clear hA hB) | (refine wpList_store_tab rfl _ _ rfl _ _ rfl rfl HA.out ?_; intro wB hC hD; have HC := Lib.hid hC; have HD := Lib.hid hD; clear hC hD))
  refine upon_row _ 9 70 5 _ Try.underlying9 Try.underlying70 Try.underlying5 (fun W cap hW hrow => ?_)
  have HC2 := Lib.hid ((HC.out.below hW))
  have HW := Lib.hid hW
  have HR := Lib.hid hrow
  have HBW := Lib.hid (below_then (grown_new (below_then B1.out HB.out) HD.out B1.out.size) HW.out)
  have hAl := HA.out.lt
  clear hW hrow
  have hlt2 := HC2.out.lt
  obtain ⟨n, hn⟩ : ∃ n, n = s.size := ⟨_, rfl⟩
  have hnl : s.data.toList.length = n := by rw [hn]; simp
  have HN := Lib.hid hn
  have HNL := Lib.hid hnl
  obtain ⟨c0, hc0⟩ : ∃ x, x = ~~~ c := ⟨_, rfl⟩
  have HC0 := Lib.hid hc0
  rw [not_int c, ← hn, ← hc0]
  rw [← hn] at hs
  clear hc0
  clear hn hnl hAl HA HB HC HD B1 HW
  go_wp2_with fail
  go_loop [0, 7, 14] (fun s0 s7 s14 => ∃ (k : Nat), s14 = .int .i64 k ∧ k ≤ n ∧ s0 = .int .u32 ((crc c0 (s.data.toList.take k)).toNat : Nat)) (fun v0 v7 vi => n - (intOf vi).toNat)
  case atStart => exact ⟨0, rfl, by omega, rfl⟩
  case round =>
    obtain ⟨k, rfl, hk, rfl⟩ := hrel
    by_cases hlt : k < n
    · have hki : (k : Int) < (n : Int) := by omega
      have hkl : k < s.data.toList.length := by rw [HNL.out]; exact hlt
      have r0 := HR.out.cell k hkl
      have hsn : crc c0 (s.data.toList.take (k + 1)) = cbyte (crc c0 (s.data.toList.take k)) s.data.toList[k] := by
        rw [List.take_succ_eq_append_getElem hkl, crc_snoc]
      have HSN := Lib.hid hsn
      clear hsn
      generalize s.data.toList[k] = x at *
      have hx := x.toNat_lt
      simp only [Nat.reducePow] at hx
      generalize crc c0 (s.data.toList.take k) = c1 at *
      have hc1 := c1.isLt
      simp only [Nat.reducePow] at hc1
      have CB := Lib.hid (cbyte_nat c1 x)
      obtain ⟨q, hq⟩ : ∃ q, q = (c1.toNat % 256) ^^^ x.toNat := ⟨_, rfl⟩
      have hq2 : q < 256 := by rw [hq]; exact Nat.xor_lt_two_pow (n := 8) (by omega) (by omega)
      have hqb : bits .xor .u8 ((c1.toNat : Int) % 256) (x.toNat : Int) = (q : Int) := by
        rw [show ((c1.toNat : Int) % 256) = ((c1.toNat % 256 : Nat) : Int) by omega, u8_xor _ _ (by omega) (by omega), hq]
      rw [← hq] at CB
      have t0 := HC2.out.cell q hq2
      rw [if_pos hq2] at t0
      have hqi : (q : Int) < 256 := by omega
      clear hq
      generalize tabN q = tq at *
      go_wp2_with fail
      exact ⟨⟨k + 1, by go_num, by omega, by rw [CB.out, HSN.out]⟩, by simp [intOf]; omega⟩
    · obtain rfl : k = n := by omega
      have NI := Lib.hid (not_int (crc c0 (s.data.toList.take k)))
      have HT := Lib.hid (List.take_of_length_le (l := s.data.toList) (i := k) (by rw [HNL.out]; exact Nat.le_refl _))
      go_wp2_with fail
      go_ret
      exact ⟨ret_int (by rw [NI.out, HT.out, HC0.out]; simp), HBW.out⟩
set_option maxHeartbeats 4000000 in
theorem sumOf_any (s : ByteArray) (w : World) (hs : s.size ≤ maxLen) : Calls Try.prog 164 #[.string s] w fun e w' => e = .returned (.int .u32 ((crcOf s.data.toList).toNat : Nat)) ∧ Below w.heap.size w w' := by
  have h : ∀ W, Calls Try.prog 192 #[.int .u32 (0 : Nat), .string s] W fun e w' => e = .returned (.int .u32 ((crcOf s.data.toList).toNat : Nat)) ∧ Below W.heap.size W w' := fun W => more_any 0#32 s W hs
  have M := Lib.hid h
  generalize crcOf s.data.toList = c at *
  clear h
  go_enter Try.func164, Try.ntmps164
  go_wp2_with fail
  refine (M.out _).mono ?_
  rintro e w1 ⟨rfl, hb⟩
  have HB := Lib.hid hb
  clear hb
  go_wp2_with fail
  go_ret
  exact ⟨rfl, HB.out⟩
theorem sumBytes : ∀ zs : List UInt8, strOfNums (zs.map fun b => (b.toNat : Int)) = ⟨zs.toArray⟩
  | [] => rfl
  | z :: zs => by
    apply bytes_ext
    rw [List.map_cons, strOfNums_cons, sumBytes zs]
    simp
theorem u8_val (n : Nat) : Value.int .u8 ((n : Int) % 256) = Value.int .u8 ((UInt8.ofNat n).toNat : Int) := by
  congr 1
theorem le4_row (w : World) (c : BitVec 32) : RowAt (w.alloc (.cells #[.int .u8 ((c.toNat : Int) % 256), .int .u8 ((c.toNat : Int) / 256 % 256), .int .u8 ((c.toNat : Int) / 65536 % 256), .int .u8 ((c.toNat : Int) / 16777216)] 5)) w.heap.size (le4 c) := by
  have hc := c.isLt
  refine ⟨_, _, 0, 0, heap_alloc_new w _, Nat.le_refl _, .inr rfl, fun i hi => ?_⟩
  have hi4 : i < 4 := hi
  have h : i = 0 ∨ i = 1 ∨ i = 2 ∨ i = 3 := by omega
  rcases h with rfl | rfl | rfl | rfl
  · show some _ = some _
    exact congrArg some (u8_val c.toNat)
  · show some _ = some _
    rw [show ((c.toNat : Int) / 256 % 256) = ((c.toNat / 256 : Nat) : Int) % 256 by omega]
    exact congrArg some (u8_val (c.toNat / 256))
  · show some _ = some _
    rw [show ((c.toNat : Int) / 65536 % 256) = ((c.toNat / 65536 : Nat) : Int) % 256 by omega]
    exact congrArg some (u8_val (c.toNat / 65536))
  · show some _ = some _
    rw [show ((c.toNat : Int) / 16777216) = ((c.toNat / 16777216 : Nat) : Int) % 256 by omega]
    exact congrArg some (u8_val (c.toNat / 16777216))
set_option maxHeartbeats 4000000 in
set_option maxRecDepth 100000 in
theorem seal_any (l : List UInt8) (w : World) (hs : l.length ≤ 1000000) : Calls Try.prog 98 #[.string ⟨l.toArray⟩] w fun e w' => e = .returned (.string ⟨(sealed l).toArray⟩) ∧ Below w.heap.size w w' := by
  have M := Lib.hid fun W => sumOf_any ⟨l.toArray⟩ W (by show l.toArray.size ≤ _; unfold maxLen; simp; omega)
  have HS : Hid (sealed l = l ++ le4 (crcOf l)) := rfl
  go_enter Try.func98, Try.ntmps98
  go_wp2_with fail
  refine (M.out _).mono ?_
  rintro e w1 ⟨rfl, hb⟩
  have HB := Lib.hid hb
  have e1 : (crcOf (⟨l.toArray⟩ : ByteArray).data.toList) = crcOf l := rfl
  rw [e1]
  generalize crcOf l = c at *
  have hcl := c.isLt
  simp only [Nat.reducePow] at hcl
  have hsl : ¬ 9223372036854775807 < l.length + 4 := by omega
  clear hb e1 M
  go_wp2_with fail
  have RW := le4_row w1 c
  refine upon_str RW rfl 70 5 9 Try.underlying70 Try.underlying5 Try.underlying9 ?_
  rw [sumBytes]
  have hz4 : (⟨(le4 c).toArray⟩ : ByteArray).size = 4 := rfl
  generalize hL : le4 c = L at *
  have HL := Lib.hid hL
  have hz5 : L.length = 4 := by rw [← hL]; rfl
  clear hL RW
  go_wp2_with fail
  go_ret
  exact ⟨ret_str1 (by rw [HS.out]; apply bytes_ext; simp), (HB.out.alloc HB.out.size _)⟩
theorem extract_take (l : List UInt8) (n : Nat) : (⟨l.toArray⟩ : ByteArray).extract 0 n = ⟨(l.take n).toArray⟩ := by
  apply bytes_ext
  simp
/-- What a sealed text has, if it is one. -/
def openOk (l : List UInt8) : Bool := decide (4 ≤ l.length ∧ sealed (l.take (l.length - 4)) = l)
set_option maxHeartbeats 4000000 in
set_option maxRecDepth 100000 in
theorem open_any (l : List UInt8) (w : World) (hs : l.length ≤ 1000000) : Calls Try.prog 107 #[.string ⟨l.toArray⟩] w fun e w' => e = .returned (.tuple #[.string ⟨(if openOk l then l.take (l.length - 4) else []).toArray⟩, .bool (openOk l)]) ∧ Below w.heap.size w w' := by
  have hsz : (⟨l.toArray⟩ : ByteArray).size = l.length := rfl
  by_cases h4 : 4 ≤ l.length
  · obtain ⟨n, hn⟩ : ∃ n, l.length = n + 4 := ⟨l.length - 4, by omega⟩
    have M := Lib.hid fun W => seal_any (l.take n) W (by rw [List.length_take]; omega)
    have hok : openOk l = decide (sealed (l.take n) = l) := by unfold openOk; rw [hn, show n + 4 - 4 = n by omega]; simp
    have hn0 : (n : Int) ≤ (l.length : Int) := by omega
    have hnd : decide ((n : Int) < 0) = false := by simp
    have hi : ¬ ((l.length : Int) - 4 < 0) := by omega
    have hw : IntKind.i64.wrap ((l.length : Int) - 4) = (n : Int) := by rw [hn, show (((n + 4 : Nat) : Int) - 4) = (n : Int) by omega]; exact IntWalk.i64_in _ ⟨by omega, by omega⟩
    have HN := Lib.hid hn
    by_cases heq : sealed (l.take n) = l
    · have e1 : (sealed (l.take n) == l) = true := by simpa using heq
      have e2 : (!(sealed (l.take n) == l)) = false := by simpa using heq
      rw [hok, decide_eq_true heq]
      simp only [if_true]
      rw [hn, show n + 4 - 4 = n by omega]
      generalize sealed (l.take n) = L at *
      clear hok h4 hn heq
      go_enter Try.func107, Try.ntmps107
      go_wp2_with fail
      rw [extract_take]
      refine (M.out _).mono ?_
      rintro e w1 ⟨rfl, hb⟩
      have HB := Lib.hid hb
      clear hb
      go_wp2_with fail
      go_ret2
      exact ⟨by rw [extract_take]; rfl, HB.out⟩
    · have e1 : (sealed (l.take n) == l) = false := by simpa using heq
      have e2 : (!(sealed (l.take n) == l)) = true := by simpa using heq
      rw [hok, decide_eq_false heq]
      simp only [Bool.false_eq_true, if_false]
      generalize sealed (l.take n) = L at *
      clear hok h4 hn heq
      go_enter Try.func107, Try.ntmps107
      go_wp2_with fail
      rw [extract_take]
      refine (M.out _).mono ?_
      rintro e w1 ⟨rfl, hb⟩
      have HB := Lib.hid hb
      clear hb
      go_wp2_with fail
      go_ret2
      exact ⟨rfl, HB.out⟩
  · have hok : openOk l = false := by unfold openOk; simp; omega
    rw [hok]
    have hi : (l.length : Int) - 4 < 0 := by omega
    clear hok
    go_enter Try.func107, Try.ntmps107
    go_wp2_with fail
    go_ret2
    exact ⟨rfl, Below.refl _ _⟩

end Go.Proofs.Ytienlhnbmobinaa
