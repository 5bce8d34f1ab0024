/- UndoReads: the walk, where a record's bytes are turned -/
import Derived.Test.YtahaikfijegknaaRows
import Derived.Test.YtahaikfijegknaaUndoBackJoin
import Derived.Test.YtahaikfijegknaaByteRow
import Derived.Test.YtahaikfijegknaaOpenFlat
import Derived.WalkKit
import Derived.WalkLawsBesides
import Derived.WalkSpells
import Derived.LoopTactic
import Derived.WalkMore
import Derived.LoopN
import Derived.Laws.BitsAllLaws
import Derived.Laws.IdiomStrings
import Derived.BigQuiet
import Derived.Deep.QuietTactic
import Derived.Deep.DeepCutAuto
import Derived.Deep.RegionHeld3
import Derived.Deep.DrawnRows
import Derived.Lib.Hide
import Derived.Outline
import Derived.Deep.DeepMust
import Derived.Handy
namespace Go.Proofs.Ytahaikfijegknaa
open Go.RowKit
set_option linter.unusedVariables false
set_option linter.unusedSimpArgs false

theorem cell_set_far {w : World} {q : Addr} {v : Value} {x j : Nat} {u : Value} (h : w.cell? q = some v) (hne : q.block ≠ x) : (w.setCell ⟨x, j, none⟩ u).drew.cell? q = some v := by
  have hb : (w.setCell ⟨x, j, none⟩ u).heap[q.block]? = w.heap[q.block]? := Below.heap_setCell w ⟨x, j, none⟩ u q.block hne
  show (w.setCell ⟨x, j, none⟩ u).cell? q = some v
  unfold World.cell? at h ⊢
  rw [hb]
  exact h

theorem upon_str {P : Program} {o : Oper} {a : Act} {K : Act → World → Prop} {Q : Exit → Act → World → Prop} {W : World} {g n cap : Nat} {zs : List UInt8} (h : RowAt W g zs) (hn : zs.length = n) (src e dst : TypeId) (hs : P.underlying src = some (.slice e)) (he : P.underlying e = some (.int .u8)) (hd : P.underlying dst = some .string)
    (hk : K (a.put o.dst (.string (strOfNums (zs.map fun b => (b.toNat : Int))))) W) :
    o.upon P a K Q (((convert src dst (.slice (some ⟨g, 0, none⟩) n cap)).run P W).andThen fun v w' => .ok (.value v) w') := by
  rw [← hn, row_str h src e dst hs he hd]
  simp only [Result.andThen]
  rw [Oper.upon_value]
  exact hk

theorem strOfNums_size : ∀ xs : List Int, (strOfNums xs).size = xs.length
  | [] => rfl
  | x :: xs => by
    have h := strOfNums_cons x xs
    have h2 := strOfNums_size xs
    have e1 : (strOfNums (x :: xs)).data.toList.length = (strOfNums (x :: xs)).size := by simp
    have e2 : (strOfNums xs).data.toList.length = (strOfNums xs).size := by simp
    rw [← e1, h, List.length_cons, e2, h2, List.length_cons]

theorem cell_lt {w : World} {q : Addr} {v : Value} (h : w.cell? q = some v) : q.block < w.heap.size := by
  rcases Nat.lt_or_ge q.block w.heap.size with hlt | hge
  · exact hlt
  · simp [World.cell?, Array.getElem?_eq_none hge] at h

set_option maxHeartbeats 2000000 in
set_option maxRecDepth 100000 in
theorem undoReads_own (z S : ByteArray) (kd x pg sl : Nat) (y k v : ByteArray) (m : Bool) (t p s : Nat) (d : Int) (a b : Option Addr) (la ca lb cb : Nat) (w : World) (hl : la ≤ 8) (hl2 : lb ≤ 8) (hS : S.size ≤ 400) (za zb : List Int) (ra : IsRow .u8 w a la ca za) (rb : IsRow .u8 w b lb cb zb) (hz : (z.size : Int) ≤ 1024)
    (D : Hid (∀ Z : ByteArray, Z.size ≤ 1024 → ∃ (kd x pg sl : Nat) (y k v : ByteArray) (m : Bool) (t p s : Nat) (d e : Int), (∀ W, Calls Try.prog 43 #[.string Z] W fun r w' => r = .returned (.tuple #[.agg #[.int .u8 kd, .int .u64 x, .int .u32 pg, .int .u16 sl, .string y, .string k, .bool m, .int .u64 t, .int .u32 p, .int .u16 s, .string v, .int .i64 d], .int .i64 e]) ∧ Below W.heap.size W w') ∧ (∀ W, Calls Try.prog 44 #[.string Z] W fun r w' => r = .returned (.tuple #[.agg #[.int .u8 kd, .int .u64 x, .int .u32 pg, .int .u16 sl, .string y, .string k, .bool m, .int .u64 t, .int .u32 p, .int .u16 s, .string v, .int .i64 d], .int .i64 e]) ∧ Below W.heap.size W w')))
    (H : Hid (∀ W, Calls Try.prog 36 #[.agg #[.int .u8 kd, .int .u64 x, .int .u32 pg, .int .u16 sl, .string y, .string k, .bool m, .int .u64 t, .int .u32 p, .int .u16 s, .string v, .int .i64 d]] W fun e w' => e = .returned (.bool false) ∧ Below W.heap.size W w'))
    (E : Hid (∀ W, Calls Try.prog 42 #[.agg #[.int .u8 kd, .int .u64 x, .int .u32 pg, .int .u16 sl, .string y, .string k, .bool m, .int .u64 t, .int .u32 p, .int .u16 s, .string v, .int .i64 d]] W fun e w' => e = .returned (.string S) ∧ Below W.heap.size W w')) :
    Calls Try.prog 11 #[.string z, .agg #[.int .u8 kd, .int .u64 x, .int .u32 pg, .int .u16 sl, .string y, .string k, .bool m, .int .u64 t, .int .u32 p, .int .u16 s, .string v, .int .i64 d], .bool true, .slice a la ca, .slice b lb cb] w fun e w' => e = .returned (.bool true) ∧ Below w.heap.size w w' := by
  go_enter Try.func11, Try.ntmps11
  go_wp2_with fail
  refine (H.out _).mono ?_
  rintro e w1 ⟨rfl, h1⟩
  have xa := (h1.block _ (by simp)).trans (heap_alloc_new w (.cells #[.int .u8 kd, .int .u64 x, .int .u32 pg, .int .u16 sl, .string y, .string k, .bool m, .int .u64 t, .int .u32 p, .int .u16 s, .string v, .int .i64 d] 58))
  have c0 := blk_cell xa 0
  have c1 := blk_cell xa 1
  have c2 := blk_cell xa 2
  have c3 := blk_cell xa 3
  have c4 := blk_cell xa 4
  have c5 := blk_cell xa 5
  have c6 := blk_cell xa 6
  have c7 := blk_cell xa 7
  have c8 := blk_cell xa 8
  have c9 := blk_cell xa 9
  have c10 := blk_cell xa 10
  have c11 := blk_cell xa 11
  go_wp2_with fail
  refine (E.out _).mono ?_
  rintro e w2 ⟨rfl, h2⟩
  clear c0 c1 c2 c3 c4 c5 c6 c7 c8 c9 c10 c11 xa
  go_wp2_with fail
  refine upon_row _ 9 64 5 _ Try.underlying9 Try.underlying64 Try.underlying5 (fun W cap hW hrow => ?_)
  go_wp2_with fail
  have hb2 : Below w.heap.size w w2 := (((Below.refl _ _).alloc (Nat.le_refl _) _).trans (h1.mono (by simp))).trans (h2.mono (by have := h1.size; simp at this; omega))
  have hg : w.heap.size ≤ w2.heap.size := hb2.size
  have hbW := hb2.trans (hW.mono hg)
  generalize w2.heap.size = g at *
  have hl0 : S.data.toList.length = S.size := by simp
  clear h1 h2 hW hb2
  generalize hzs : S.data.toList = zs0 at *
  generalize S.size = n at *
  clear hzs
  have RA := Lib.hid ra
  have RB := Lib.hid rb
  have HW := Lib.hid hbW
  have HROW := Lib.hid hrow
  clear ra rb hbW hrow
  go_loopw [12] (fun i wr => ∃ (j : Nat) (zs : List UInt8), zs.length = n ∧ j ≤ la ∧ i = .int .i64 j ∧ RowAt wr g zs ∧ Below w.heap.size w wr) (fun i _ => la - (intOf i).toNat)
  case atStart => exact ⟨0, zs0, hl0, Nat.zero_le _, rfl, HROW.out, HW.out⟩
  case round =>
    obtain ⟨j, zs, hlz, hj, rfl, hrow, hbw⟩ := hrel
    by_cases hc : j < la ∧ j < lb ∧ 0 < n
    · obtain ⟨h1, h2, h3⟩ := hc
      have go : ∃ (x x' : Addr) (A : Nat) (B : UInt8), a = some x ∧ b = some x' ∧ A < 256 ∧ (x.add j).block < w.heap.size ∧ (x'.add j).block < w.heap.size ∧ wr.cell? (x.add j) = some (.int .u8 A) ∧ wr.cell? (x'.add j) = some (.int .u8 (B.toNat : Int)) := by
        rcases RA.out with ⟨_, h0, _⟩ | ⟨x, hx, _, _, hlen, hcell, hwf⟩
        · omega
        · rcases RB.out with ⟨_, h0, _⟩ | ⟨x', hx', _, _, hlen', hcell', hwf'⟩
          · omega
          · have c1 := hcell j (by omega)
            have c2 := hcell' j (by omega)
            have e1 := hwf (za.getD j 0) (by rw [List.getD_eq_getElem?_getD, List.getElem?_eq_getElem (by omega)]; simp)
            have e2 := hwf' (zb.getD j 0) (by rw [List.getD_eq_getElem?_getD, List.getElem?_eq_getElem (by omega)]; simp)
            have d1 := (hbw.cell (p := x.add j) (cell_lt c1)).trans c1
            have d2 := (hbw.cell (p := x'.add j) (cell_lt c2)).trans c2
            generalize za.getD j 0 = A at *
            generalize zb.getD j 0 = B at *
            obtain ⟨A, rfl, hA⟩ := natOf e1 (by decide) (b := 256) (by decide)
            obtain ⟨B, rfl, hB⟩ := natOf e2 (by decide) (b := 256) (by decide)
            exact ⟨x, x', A, UInt8.ofNat B, hx, hx', hA, cell_lt c1, cell_lt c2, d1, by rw [show (UInt8.ofNat B).toNat = B by simp; omega]; exact d2⟩
      obtain ⟨x, x', A, B, rfl, rfl, hA, hx1, hx2, c1, c2⟩ := go
      have hr : ((A : Int).tmod (n : Int)) = ((A % n : Nat) : Int) := (Int.ofNat_tmod A n).symm
      have hrn : A % n < n := Nat.mod_lt _ h3
      have hn0 : ((n : Int) == 0) = false := by simp; omega
      have hn2 : ¬ n = 0 := by omega
      generalize A % n = r at *
      have hwr : IntKind.i64.wrap ((r : Nat) : Int) = r := IntWalk.i64_in _ ⟨by omega, by omega⟩
      have hrn' : ((r : Nat) : Int) < (n : Int) := by omega
      have hwA : IntKind.i64.wrap ((A : Nat) : Int) = A := IntWalk.i64_in _ ⟨by omega, by omega⟩
      have hf := hrow.frozen r (by omega)
      have hcx := hrow.cell r (by omega)
      generalize ((zs[r]'(by omega)).toNat : Int) = qq at hcx
      have HR := Lib.hid hrow
      have HBW := Lib.hid hbw
      clear hrow hbw
      have hx1 : (x.add j).block ≠ g := by omega
      have hx2 : (x'.add j).block ≠ g := by omega
      generalize hBB : ((B.toNat : Nat) : Int) = BI at c2
      go_upto_region 8 with fail
      go_region_held3 (fun w' => w'.cell? (x.add j) = some (.int .u8 A) ∧ w'.cell? (x'.add j) = some (.int .u8 BI)) (first | (with_reducible exact ⟨c1, c2⟩) | exact ⟨cell_set_far c1 hx1, cell_set_far c2 hx2⟩ | exact ⟨c1, c2⟩) (fail)
      all_goals go_wp2_with fail
      all_goals go_roundw
      case rel => exact ⟨j + 1, zs.set r B, by simp [hlz], by omega, by go_num, by rw [← hBB]; exact HR.out.set r B (by omega), (HBW.out.setCell hg _).drew⟩
      case measure => simp [intOf]; omega
    · have HR := Lib.hid hrow
      have HBW := Lib.hid hbw
      have hzsz : (strOfNums (zs.map fun b => (b.toNat : Int))).size ≤ 1024 := by rw [strOfNums_size]; simp; omega
      clear hrow hbw
      go_wp2_with fail
      all_goals
        refine upon_str HR.out hlz 64 5 9 Try.underlying64 Try.underlying5 Try.underlying9 ?_
        generalize strOfNums (zs.map fun b => (b.toNat : Int)) = Z at *
        obtain ⟨kd2, x2, pg2, sl2, y2, k2, v2, m2, t2, p2, s2, d2, e2, F1, F2⟩ := D.out Z hzsz
        have hq := eqUndo_self kd2 x2 pg2 sl2 y2 k2 v2 m2 t2 p2 s2 d2
        have G1 := Lib.hid F1
        have G2 := Lib.hid F2
        clear F1 F2
        have hb := HBW.out
        go_wp2_with fail
        refine (G1.out _).mono ?_
        rintro e w3 ⟨rfl, h3⟩
        have hb := hb.trans (h3.mono hb.size)
        clear h3 G1
        go_wp2_with fail
        refine (G2.out _).mono ?_
        rintro e w4 ⟨rfl, h4⟩
        have x3 := (h4.block _ (by simp)).trans (heap_alloc_new w3 (.cells #[.int .u8 kd2, .int .u64 x2, .int .u32 pg2, .int .u16 sl2, .string y2, .string k2, .bool m2, .int .u64 t2, .int .u32 p2, .int .u16 s2, .string v2, .int .i64 d2] 58))
        have hb := (hb.alloc hb.size (.cells #[.int .u8 kd2, .int .u64 x2, .int .u32 pg2, .int .u16 sl2, .string y2, .string k2, .bool m2, .int .u64 t2, .int .u32 p2, .int .u16 s2, .string v2, .int .i64 d2] 58)).trans (h4.mono (by simp; exact Nat.le_succ_of_le hb.size))
        clear h4 G2
        generalize w3.heap.size = X3 at *
        have g0 := blk_lt x3
        have c0 := blk_cell x3 0
        have c1 := blk_cell x3 1
        have c2 := blk_cell x3 2
        have c3 := blk_cell x3 3
        have c4 := blk_cell x3 4
        have c5 := blk_cell x3 5
        have c6 := blk_cell x3 6
        have c7 := blk_cell x3 7
        have c8 := blk_cell x3 8
        have c9 := blk_cell x3 9
        have c10 := blk_cell x3 10
        have c11 := blk_cell x3 11
        have HX3 := Lib.hid x3
        clear x3
        go_wp2_with fail
        refine (works21 _).mono ?_
        rintro e w5 ⟨rfl, h5⟩
        have hb := (hb.alloc hb.size (.cells #[.int .u8 kd2, .int .u64 x2, .int .u32 pg2, .int .u16 sl2, .string y2, .string k2, .bool m2, .int .u64 t2, .int .u32 p2, .int .u16 s2, .string v2, .int .i64 d2] 58)).trans (h5.mono (by simp; exact Nat.le_succ_of_le hb.size))
        go_wp2_with fail
        go_ret
        exact ⟨rfl, hb⟩

end Go.Proofs.Ytahaikfijegknaa
