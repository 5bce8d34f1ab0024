/- The document's area: ground -/
import Derived.Test.YtienlhnbmobinaaRows
import Derived.Test.YtienlhnbmobinaaSlotCompact
import Derived.Test.YtienlhnbmobinaaSlotRoot
import Derived.Test.YtienlhnbmobinaaBase
import Derived.Test.YtienlhnbmobinaaWordWalks
import Derived.WalkKit
import Derived.WalkLawsBesides
import Derived.WalkSpells
import Derived.LoopTactic
import Derived.WalkMore
import Derived.LoopN
import Derived.Laws.BitsAllLaws
import Derived.Laws.IdiomStrings
import Derived.BigQuiet
import Derived.Deep.QuietTactic
import Derived.Deep.DeepCutAuto
import Derived.Deep.RegionHeld3
import Derived.Deep.DrawnRows
import Derived.Lib.Hide
import Derived.Outline
import Derived.Deep.DeepMust
import Derived.Handy
namespace Go.Proofs.Ytienlhnbmobinaa
open Go.RowKit
set_option linter.unusedVariables false
set_option linter.unusedSimpArgs false

/-- The directory's cells. -/
def places : List (Nat × Nat) → List Value
  | [] => []
  | p :: r => .int .i64 (p.1 : Nat) :: .int .i64 (p.2 : Nat) :: places r
theorem places_length : ∀ L, (places L).length = L.length * 2
  | [] => rfl
  | p :: r => by simp [places, places_length r]; omega
theorem places_append : ∀ a b, places (a ++ b) = places a ++ places b
  | [], b => rfl
  | p :: r, b => by simp [places, places_append r]
theorem places_take : ∀ (L : List (Nat × Nat)) (k : Nat), (places L).take (k * 2) = places (L.take k)
  | [], k => by simp [places]
  | p :: r, 0 => by simp [places]
  | p :: r, k + 1 => by rw [Nat.succ_mul]; simp [places, places_take r k]
theorem places_drop : ∀ (L : List (Nat × Nat)) (k : Nat), (places L).drop (k * 2) = places (L.drop k)
  | [], k => by simp [places]
  | p :: r, 0 => by simp [places]
  | p :: r, k + 1 => by rw [Nat.succ_mul]; simp [places, places_drop r k]
theorem places_from : ∀ (L : List (Nat × Nat)) (k : Nat) (h : k < L.length), (places L)[k * 2]? = some (.int .i64 (L[k].1 : Nat))
  | p :: r, 0, h => rfl
  | p :: r, k + 1, h => by rw [Nat.succ_mul]; simpa [places] using places_from r k (by simpa using h)
theorem places_size : ∀ (L : List (Nat × Nat)) (k : Nat) (h : k < L.length), (places L)[k * 2 + 1]? = some (.int .i64 (L[k].2 : Nat))
  | p :: r, 0, h => rfl
  | p :: r, k + 1, h => by rw [Nat.succ_mul]; simpa [places] using places_size r k (by simpa using h)
theorem places_one (L : List (Nat × Nat)) : ∀ u ∈ places L, u.oneCell' = true := by
  induction L with
  | nil => intro u hu; cases hu
  | cons p r ih =>
    intro u hu
    simp only [places, List.mem_cons] at hu
    rcases hu with rfl | rfl | hu
    · rfl
    · rfl
    · exact ih u hu
theorem run_part {P : Program} {W : World} {g off n cap : Nat} {zs : List UInt8} (h : RowAt W g zs) (hn : off + n ≤ zs.length) (src e dst : TypeId) (hs : P.underlying src = some (.slice e)) (he : P.underlying e = some (.int .u8)) (hd : P.underlying dst = some .string) :
    (convert src dst (.slice (some ⟨g, off, none⟩) n cap)).run P W = .ok (.string ⟨((zs.drop off).take n).toArray⟩) W := by
  rw [run_convert_bytes_arg _ src e hs he g off n cap (((zs.drop off).take n).map fun b => (b.toNat : Int)) (by simp; omega) (fun i hi => by
    rw [h.cell (off + i) (by omega)]
    have : i < ((zs.drop off).take n).length := by simp; omega
    simp [List.getD_eq_getElem?_getD, show i < n by omega, List.getElem?_eq_getElem (show off + i < zs.length by omega)]) dst hd, strOfNums_bytes]
theorem below_drewN {B : Nat} {w w' : World} (h : Below B w w') (n : Nat) : Below B w (w'.drewN n) := ⟨h.os, h.tape, h.output, h.size, h.block⟩
/-- The document's area in memory: its struct, its bytes, its directory. -/
structure RefAt (w : World) (g gB cap : Nat) (v : Value) (a : Ar) : Prop where
  own : w.heap[g]? = some (.cells #[.slice (some ⟨gB, 0, none⟩) a.B.length cap, .int .i64 (a.low : Nat), v] 151 (0, 0))
  row : RowAt w gB a.B
  dir : w.ownsRow 0 192 2 v a.L.length (places a.L)
  ne : g ≠ gB
  far : ∀ k, v.ownBlock = some k → k ≠ g ∧ k ≠ gB
  room : a.B.length ≤ cap
theorem RefAt.below {w w' : World} {g gB cap : Nat} {v : Value} {a : Ar} (h : RefAt w g gB cap v a) (hb : Below w.heap.size w w') : RefAt w' g gB cap v a :=
  ⟨(hb.block _ (blk_lt h.own)).trans h.own, h.row.below hb, own_below h.dir hb, h.ne, h.far, h.room⟩
theorem RefAt.c0 {w : World} {g gB cap : Nat} {v : Value} {a : Ar} (h : RefAt w g gB cap v a) : w.cell? ⟨g, 0, none⟩ = some (.slice (some ⟨gB, 0, none⟩) a.B.length cap) := by rw [blk_cell h.own]; rfl
theorem RefAt.c1 {w : World} {g gB cap : Nat} {v : Value} {a : Ar} (h : RefAt w g gB cap v a) : w.cell? ⟨g, 1, none⟩ = some (.int .i64 (a.low : Nat)) := by rw [blk_cell h.own]; rfl
theorem RefAt.c2 {w : World} {g gB cap : Nat} {v : Value} {a : Ar} (h : RefAt w g gB cap v a) : w.cell? ⟨g, 2, none⟩ = some v := by rw [blk_cell h.own]; rfl
theorem dir_form {w : World} {base n : Nat} {e : TypeId} {v : Value} {xs : List Value} (h : w.ownsRow base e 2 v n xs) : ∃ b cp, v = .slice b n cp ∧ n ≤ cp ∧ cp ≤ maxLen ∧ (0 < n → ∃ g, b = some ⟨g, 0, none⟩) := by
  rcases h.2 with ⟨rfl, rfl⟩ | ⟨g, cap, cur, rfl, hb, hg, h1, h2, _⟩
  · exact ⟨none, 0, rfl, Nat.le_refl _, Nat.zero_le _, fun h => absurd h (Nat.lt_irrefl 0)⟩
  · exact ⟨_, cap, rfl, h1, h2, fun _ => ⟨g, rfl⟩⟩
theorem dir_cell {w : World} {base n g cp : Nat} {e : TypeId} {xs : List Value} (h : w.ownsRow base e 2 (.slice (some ⟨g, 0, none⟩) n cp) n xs) (j : Nat) (u : Value) (hu : xs[j]? = some u) : w.cell? ⟨g, j, none⟩ = some u := by
  have := h.cells (g := g) rfl j u hu
  rwa [show (⟨g, 0, none⟩ : Addr).add j = ⟨g, j, none⟩ by unfold Addr.add; split <;> simp_all] at this

set_option maxHeartbeats 1000000 in
set_option maxRecDepth 100000 in
theorem refEnd_any (g gB cap : Nat) (v : Value) (a : Ar) (w : World) (hn : a.L.length ≤ 100000) (h : RefAt w g gB cap v a) :
    Calls Try.prog 193 #[.pointer (some ⟨g, 0, none⟩)] w fun e w' => e = .returned (.int .i64 (a.fin : Nat)) ∧ Below w.heap.size w w' := by
  have c2 := h.c2
  obtain ⟨b, cp, rfl, hcp, _, _⟩ := dir_form h.dir
  have hf : Hid (a.fin = 4 + 4 * a.L.length) := rfl
  clear h
  have m1 : IntKind.i64.wrap (4 * (a.L.length : Int)) = 4 * (a.L.length : Int) := IntWalk.i64_in _ ⟨by omega, by omega⟩
  have m2 : IntKind.i64.wrap (4 + 4 * (a.L.length : Int)) = (a.fin : Int) := by rw [hf.out, show ((4 + 4 * a.L.length : Nat) : Int) = 4 + 4 * (a.L.length : Int) by omega]; exact IntWalk.i64_in _ ⟨by omega, by omega⟩
  go_enter Try.func193, Try.ntmps193
  go_wp2_with fail
  go_ret
  exact ⟨ret_int (by have := hf.out; omega), Below.refl _ _⟩

set_option maxHeartbeats 1000000 in
set_option maxRecDepth 100000 in
theorem refGap_any (g gB cap : Nat) (v : Value) (a : Ar) (w : World) (ha : a.Fit) (h : RefAt w g gB cap v a) :
    Calls Try.prog 167 #[.pointer (some ⟨g, 0, none⟩)] w fun e w' => e = .returned (.int .i64 a.gap) ∧ Below w.heap.size w w' := by
  have c1 := ext_cell h.c1 (cell_lt h.c1)
  have hn := ha.n
  have b1 := ha.l
  have b2 := ha.hi
  have b3 := ha.f
  have E := Lib.hid fun W hW => refEnd_any g gB cap v a W (by omega) hW
  have H := Lib.hid h
  have m1 : IntKind.i64.wrap ((a.low : Int) - (a.fin : Int)) = a.gap := IntWalk.i64_in _ ⟨by omega, by omega⟩
  clear h
  go_enter Try.func167, Try.ntmps167
  go_wp2_with fail
  refine wp_region_ext w.heap.size (by kernel_rfl) (by kernel_rfl) ?_
  repeat (go_big_quiet_step ((go_at_call 193; exact ext_call _ (Nat.le_refl _) (E.out _ (H.out.below (Ext.below _))))))
  refine wpQuiet_nil ?_
  rintro _ ⟨X, rfl⟩
  have HX := Lib.hid X.below
  generalize X.val = wx at HX
  clear c1
  go_wp2_with fail
  go_ret
  exact ⟨by first | rfl | (rw [m1]; rfl), HX.out⟩

theorem sum_take_L (L : List (Nat × Nat)) (k : Nat) (h : k < L.length) : ((L.take (k + 1)).map (·.2)).sum = ((L.take k).map (·.2)).sum + L[k].2 := by
  rw [List.take_succ_eq_append_getElem h, List.map_append, List.sum_append]
  simp
theorem sum_take_Lle (L : List (Nat × Nat)) (k : Nat) : ((L.take k).map (·.2)).sum ≤ (L.map (·.2)).sum := by
  conv => rhs; rw [← List.take_append_drop k L, List.map_append, List.sum_append]
  omega

set_option maxHeartbeats 2000000 in
set_option maxRecDepth 100000 in
theorem refFree_any (g gB cap : Nat) (v : Value) (a : Ar) (w : World) (hg : a.Good) (h : RefAt w g gB cap v a) :
    Calls Try.prog 166 #[.pointer (some ⟨g, 0, none⟩)] w fun e w' => e = .returned (.int .i64 a.free) ∧ Below w.heap.size w w' := by
  have c0 := ext_cell h.c0 (cell_lt h.c0)
  have ha := hg.fit
  have hn := ha.n
  have b1 := ha.l
  have b2 := ha.hi
  have b3 := ha.f
  have hsum := hg.sum_le
  have E := Lib.hid fun W hW => refEnd_any g gB cap v a W (by omega) hW
  have H := Lib.hid h
  have hfr : Hid (a.free = (a.B.length : Int) - (a.fin : Int) - (a.sum : Int)) := rfl
  have hsm : Hid (((a.L.take a.L.length).map (·.2)).sum = a.sum) := by show _ = (a.L.map (·.2)).sum; rw [List.take_of_length_le (Nat.le_refl _)]
  have m1 : IntKind.i64.wrap ((a.B.length : Int) - (a.fin : Int)) = (a.B.length : Int) - (a.fin : Int) := IntWalk.i64_in _ ⟨by omega, by omega⟩
  clear h
  go_enter Try.func166, Try.ntmps166
  go_wp2_with fail
  refine wp_region_ext w.heap.size (by kernel_rfl) (by kernel_rfl) ?_
  repeat (go_big_quiet_step ((go_at_call 193; exact ext_call _ (Nat.le_refl _) (E.out _ (H.out.below (Ext.below _))))))
  refine wpQuiet_nil ?_
  rintro _ ⟨X, rfl⟩
  have hx := X.below
  generalize X.val = wx at hx
  have HX := Lib.hid hx
  have HR := Lib.hid (H.out.below hx)
  clear c0 hx
  obtain ⟨b, cp, rfl, hcp, hcm, hb⟩ := dir_form HR.out.dir
  have HB := Lib.hid hb
  have c2 := HR.out.c2
  clear hb
  go_wp2_with fail
  go_loop [3, 4] (fun s3 s4 => ∃ k : Nat, k ≤ a.L.length ∧ s4 = .int .i64 k ∧ s3 = .int .i64 ((a.B.length : Int) - (a.fin : Int) - (((a.L.take k).map (·.2)).sum : Nat))) (fun _ i => a.L.length - (intOf i).toNat)
  case atStart => exact ⟨0, Nat.zero_le _, rfl, by simp⟩
  case round =>
    obtain ⟨k, hk, rfl, rfl⟩ := hrel
    by_cases hc : k < a.L.length
    · obtain ⟨gL, rfl⟩ := HB.out (by omega)
      have d1 := dir_cell HR.out.dir _ _ (places_size a.L k hc)
      have hs1 := sum_take_L a.L k hc
      have hs2 := sum_take_Lle a.L (k + 1)
      have hs3 : (a.L.map (·.2)).sum = a.sum := rfl
      have HS1 := Lib.hid hs1
      have q0 : (0 : Int) ≤ (k : Int) := by omega
      have q1 : (k : Int) < (a.L.length : Int) := by omega
      have hle : ((a.L.take k).map (·.2)).sum + a.L[k].2 ≤ 4096 := by omega
      clear hs1 hs2 hs3
      generalize ((a.L.take k).map (·.2)).sum = S at *
      generalize a.L[k].2 = Z at *
      obtain ⟨N, hN⟩ : ∃ N : Int, N = (a.B.length : Int) - (a.fin : Int) - (S : Int) := ⟨_, rfl⟩
      have e1 : Hid (N - (Z : Int) = (a.B.length : Int) - (a.fin : Int) - ((S + Z : Nat) : Int)) := by show _ = _; omega
      have w1 : IntKind.i64.wrap (N - (Z : Int)) = N - (Z : Int) := IntWalk.i64_in _ ⟨by omega, by omega⟩
      rw [← hN]
      clear hN
      go_wp2_with fail
      go_round
      case rel => exact ⟨k + 1, by omega, by go_num, by rw [e1.out, HS1.out]⟩
      case measure => simp [intOf]; omega
    · obtain rfl : k = a.L.length := by omega
      rw [hsm.out]
      go_wp2_with fail
      go_ret
      exact ⟨ret_int (by rw [hfr.out]), HX.out⟩

set_option maxHeartbeats 1000000 in
set_option maxRecDepth 100000 in
theorem refText_any (g gB cap k : Nat) (v : Value) (a : Ar) (w : World) (hg : a.Good) (hk : k < a.L.length) (h : RefAt w g gB cap v a) :
    Calls Try.prog 114 #[.pointer (some ⟨g, 0, none⟩), .int .i64 k] w fun e w' => e = .returned (.string ⟨(a.text a.L[k]).toArray⟩) ∧ Below w.heap.size w w' := by
  obtain ⟨b, cp, rfl, hcp, hcm, hb⟩ := dir_form h.dir
  obtain ⟨gL, rfl⟩ := hb (by omega)
  have H := Lib.hid h
  have c0 := h.c0
  have c2 := h.c2
  have d0 := dir_cell h.dir _ _ (places_from a.L k hk)
  have d1 := dir_cell h.dir _ _ (places_size a.L k hk)
  have hin := hg.inn _ (List.getElem_mem hk)
  have hhi := hg.hi
  have hroom := h.room
  have hT : Hid (a.text a.L[k] = (a.B.drop a.L[k].1).take a.L[k].2) := rfl
  have q0 : (0 : Int) ≤ (k : Int) := by omega
  have q1 : (k : Int) < (a.L.length : Int) := by omega
  have hin2 := hin.2
  clear h hb hin
  generalize a.L[k].1 = F at *
  generalize a.L[k].2 = Z at *
  have s1 : (F : Int) ≤ (F : Int) + (Z : Int) := by omega
  have s2 : (0 : Int) ≤ (F : Int) + (Z : Int) := by omega
  have s3 : (F : Int) + (Z : Int) ≤ (cap : Int) := by omega
  have hrow : ∀ W : World, W.heap = w.heap → RowAt W gB a.B := fun W hW => H.out.row.of_eq (by rw [hW])
  have hcv : ∀ (n : Nat), (convert 70 9 (.slice (some ⟨gB, F, none⟩) Z (cap - F))).run Try.prog (w.drewN n) = .ok (.string ⟨((a.B.drop F).take Z).toArray⟩) (w.drewN n) :=
    fun n => run_part (hrow (w.drewN n) rfl) hin2 _ 5 _ Try.underlying70 Try.underlying5 Try.underlying9
  by_cases hcc : cap = F
  · have z0 : Z = 0 := by omega
    subst z0
    have hcv0 : ∀ (n : Nat), (convert 70 9 (.slice (some ⟨gB, 0, none⟩) 0 0)).run Try.prog (w.drewN n) = .ok (.string ⟨#[]⟩) (w.drewN n) :=
      fun n => by
        have := run_part (P := Try.prog) (cap := 0) (off := 0) (n := 0) (hrow (w.drewN n) rfl) (by omega) 70 5 9 Try.underlying70 Try.underlying5 Try.underlying9
        simpa using this
    subst hcc
    clear hcv
    have s4 : (cap : Int) ≤ (cap : Int) + 0 := by omega
    go_enter Try.func114, Try.ntmps114
    go_wp2_with fail
    go_quiet (fail)
    go_wp2_with fail
    go_ret
    exact ⟨ret_str1 (by rw [hT.out]; simp), below_drewN (Below.refl _ _) _⟩
  · have hcc1 : ¬ (F : Int) = (cap : Int) := by omega
    go_enter Try.func114, Try.ntmps114
    go_wp2_with fail
    go_quiet (fail)
    go_wp2_with fail
    go_ret
    exact ⟨ret_str1 (by rw [hT.out]), below_drewN (Below.refl _ _) _⟩

end Go.Proofs.Ytienlhnbmobinaa

namespace Go.Proofs.Ytienlhnbmobinaa
open Go.RowKit
set_option linter.unusedVariables false
set_option linter.unusedSimpArgs false

/-- The blocks of the document's area. -/
def refOwn (g gB : Nat) (v : Value) (k : Nat) : Prop := k = g ∨ k = gB ∨ v.ownBlock = some k

theorem refNew_no (n : Int) (w : World) (hn : n < 16 ∨ 4096 < n) :
    Calls Try.prog 101 #[.int .i64 n] w fun e w' => e = .returned (.pointer none) ∧ Below w.heap.size w w' := by
  rcases hn with h | h
  · go_enter Try.func101, Try.ntmps101
    go_wp2_with fail
    go_ret
    exact ⟨rfl, Below.refl _ _⟩
  · go_enter Try.func101, Try.ntmps101
    go_wp2_with fail
    go_ret
    exact ⟨rfl, Below.refl _ _⟩

set_option maxHeartbeats 1000000 in
set_option maxRecDepth 100000 in
theorem refNew_yes (n : Nat) (w : World) (h1 : 16 ≤ n) (h2 : n ≤ 4096) :
    Calls Try.prog 101 #[.int .i64 n] w fun e w' => ∃ g gB, e = .returned (.pointer (some ⟨g, 0, none⟩)) ∧ w.heap.size ≤ g ∧ w.heap.size ≤ gB ∧ RefAt w' g gB n (.slice none 0 0) (Ar.new n) ∧ Below w.heap.size w w' := by
  have i1 : ¬ (n : Int) < 16 := by omega
  have i2 : ¬ 4096 < (n : Int) := by omega
  go_enter Try.func101, Try.ntmps101
  go_wp2_with fail
  refine upon_make _ 70 5 n Try.underlying70 (by kernel_rfl) (by kernel_rfl) (by kernel_rfl) (by omega) (fun W hr hb => ?_)
  have hlt := hr.lt
  have hA : Hid (RefAt (W.alloc (.cells #[.slice (some ⟨w.heap.size, 0, none⟩) n n, .int .i64 n, .slice none 0 0] 151)) W.heap.size w.heap.size n (.slice none 0 0) (Ar.new n)) :=
    ⟨by show _ = some (Obj.cells #[.slice _ (List.replicate n (0 : UInt8)).length n, _, _] _ _); rw [List.length_replicate]; exact heap_alloc_new W _, hr.below ((Below.refl _ _).alloc (Nat.le_refl _) _), World.ownsRow_nil _ _ _ _, by omega, (fun k h => by cases h), by simp [Ar.new]⟩
  have hb2 := Lib.hid (hb.alloc hb.size (.cells #[.slice (some ⟨w.heap.size, 0, none⟩) n n, .int .i64 n, .slice none 0 0] 151))
  have hge := hb.size
  clear hb hr
  go_wp2_with fail
  go_ret
  exact ⟨_, _, rfl, hge, Nat.le_refl _, hA.out, hb2.out⟩

theorem putAt_step (B : List UInt8) (k i : Nat) (t : List UInt8) (hi : i < t.length) (hk : k + t.length ≤ B.length) : (putAt B k (t.take i)).set (k + i) t[i] = putAt B k (t.take (i + 1)) := by
  have hl1 : (t.take i).length = i := by simp; omega
  have hl2 : (t.take (i + 1)).length = i + 1 := by simp; omega
  apply List.ext_getElem?
  intro j
  rw [List.getElem?_set, putAt_get _ _ _ (by omega), putAt_get _ _ _ (by omega), hl1, hl2, putAt_len (by omega)]
  by_cases h : k + i = j
  · subst h
    rw [if_pos rfl, if_pos (by omega), if_neg (by omega), if_pos (by omega), show k + i - k = i by omega, List.getElem?_take_of_lt (by omega), List.getElem?_eq_getElem hi]
  · rw [if_neg h]
    by_cases h1 : j < k
    · rw [if_pos h1, if_pos h1]
    · rw [if_neg h1, if_neg h1]
      by_cases h2 : j < k + i
      · rw [if_pos h2, if_pos (by omega), List.getElem?_take_of_lt (by omega), List.getElem?_take_of_lt (by omega)]
      · rw [if_neg h2, if_neg (by omega)]
theorem RefAt.set_low {w : World} {g gB cap : Nat} {v : Value} {a : Ar} (h : RefAt w g gB cap v a) (n : Nat) : RefAt (w.setCell ⟨g, 1, none⟩ (.int .i64 n)) g gB cap v { a with low := n } := by
  refine ⟨?_, h.row.of_eq (Below.heap_setCell w ⟨g, 1, none⟩ _ gB (by simp; exact Ne.symm h.ne)), ?_, h.ne, h.far, h.room⟩
  · have := blk_set h.own 1 (.int .i64 n)
    simpa using this
  · refine h.dir.kept (row := some g) (grown_set (grown_refl _ _)) ?_
    cases hv : v.ownBlock with
    | none => exact .inl rfl
    | some k => exact .inr (by simp; exact (h.far k hv).1)
theorem RefAt.set_byte {w : World} {g gB cap : Nat} {v : Value} {a : Ar} (h : RefAt w g gB cap v a) (k : Nat) (u : UInt8) (hk : k < a.B.length) : RefAt (w.setCell ⟨gB, k, none⟩ (.int .u8 (u.toNat : Int))) g gB cap v { a with B := a.B.set k u } := by
  refine ⟨?_, h.row.set k u hk, ?_, h.ne, h.far, by simpa using h.room⟩
  · show _ = some (Obj.cells #[.slice _ (a.B.set k u).length cap, _, _] _ _)
    rw [List.length_set]
    exact set_keep h.own h.ne
  · refine h.dir.kept (row := some gB) (grown_set (grown_refl _ _)) ?_
    cases hv : v.ownBlock with
    | none => exact .inl rfl
    | some k => exact .inr (by simp; exact (h.far k hv).2)

end Go.Proofs.Ytienlhnbmobinaa

namespace Go.Proofs.Ytienlhnbmobinaa
open Go.RowKit
set_option linter.unusedVariables false
set_option linter.unusedSimpArgs false

theorem RefAt.other {w w' : World} {g gB cap k : Nat} {v : Value} {a : Ar} (h : RefAt w g gB cap v a) (hg : w.grownBy w' (some k)) (h1 : g ≠ k) (h2 : gB ≠ k) (h3 : v.ownBlock ≠ some k) : RefAt w' g gB cap v a :=
  ⟨(hg.block _ (blk_lt h.own) (by simp; exact h1)).trans h.own, h.row.of_eq (hg.block _ h.row.lt (by simp; exact h2)), h.dir.kept hg (.inr h3), h.ne, h.far, h.room⟩
theorem Ar.below_eq (a : Ar) (s : List UInt8) : a.below s = { a with B := putAt a.B (a.low - s.length) s, low := a.low - s.length } := rfl

set_option maxHeartbeats 4000000 in
set_option maxRecDepth 100000 in
theorem refBelow_any (g gB cap : Nat) (v : Value) (a : Ar) (s : ByteArray) (w : World) (ha : a.Fit) (hr : s.size ≤ a.low) (h : RefAt w g gB cap v a) :
    Calls Try.prog 169 #[.pointer (some ⟨g, 0, none⟩), .string s] w fun e w' => e = .returned (.agg #[.int .i64 ((a.low - s.size : Nat) : Int), .int .i64 (s.size : Nat)]) ∧ RefAt w' g gB cap v (a.below s.data.toList) ∧ OthersKept w w' (fun k => k = g ∨ k = gB) := by
  have hsl : s.data.toList.length = s.size := by simp
  have b1 := ha.l
  have b2 := ha.hi
  have hb0 : Below w.heap.size w (w.alloc (.cells #[.int .i64 0, .int .i64 0] 192)) := (Below.refl _ _).alloc (Nat.le_refl _) _
  have H0 := Lib.hid (h.below hb0)
  have hgl : g < w.heap.size := blk_lt h.own
  have hgB : gB < w.heap.size := h.row.lt
  obtain ⟨low, hlow⟩ : ∃ x, x = a.low - s.size := ⟨_, rfl⟩
  have hw : IntKind.i64.wrap ((a.low : Int) - (s.size : Int)) = (low : Int) := by rw [show ((low : Nat) : Int) = (a.low : Int) - (s.size : Int) by omega]; exact IntWalk.i64_in _ ⟨by omega, by omega⟩
  have c1 := H0.out.c1
  have hne := h.ne
  have hvl := fun k hk => (h.dir.lt k hk).2
  have hroom := h.room
  have f1 := blk_frozen H0.out.own 1
  have hs1 := h.set_low low
  have hb1 : Below (w.setCell ⟨g, 1, none⟩ (.int .i64 low)).heap.size (w.setCell ⟨g, 1, none⟩ (.int .i64 low)) ((w.setCell ⟨g, 1, none⟩ (.int .i64 low)).alloc (.cells #[.int .i64 0, .int .i64 0] 192)) := (Below.refl _ _).alloc (Nat.le_refl _) _
  have H1 := Lib.hid (hs1.below hb1)
  have K1 : OthersKept w ((w.setCell ⟨g, 1, none⟩ (.int .i64 low)).alloc (.cells #[.int .i64 0, .int .i64 0] 192)) (fun k => k = g ∨ k = gB) :=
    (OthersKept.of_grown (p := fun k => k = g ∨ k = gB) (grown_set (grown_refl _ g)) (.inl rfl)).trans (OthersKept.of_below hb1) (fun _ _ h => h)
  have HK1 := Lib.hid K1
  have B1 : Hid (((w.setCell ⟨g, 1, none⟩ (.int .i64 low)).alloc (.cells #[.int .i64 0, .int .i64 0] 192)).heap[w.heap.size]? = some (.cells #[.int .i64 0, .int .i64 0] 192)) := by
    have := heap_alloc_new (w.setCell ⟨g, 1, none⟩ (.int .i64 low)) (.cells #[.int .i64 0, .int .i64 0] 192)
    have e : (w.setCell ⟨g, 1, none⟩ (.int .i64 low)).heap.size = w.heap.size := by simp
    rw [e] at this; exact this
  have hres2 : Hid (a.below s.data.toList = { a with B := putAt a.B low s.data.toList, low := low }) := by show _ = _; rw [Ar.below_eq, hsl, hlow]
  have hzz : Hid (low + s.size ≤ a.B.length) := by show low + s.size ≤ a.B.length; omega
  have hf2 : Hid (low = a.low - s.size) := hlow
  clear h hb0 K1 hs1 hb1
  go_enter Try.func169, Try.ntmps169
  go_wp2_with fail
  rw [← hf2.out]
  clear hw c1 f1
  go_loopw [5] (fun s5 wr => ∃ i : Nat, i ≤ s.size ∧ s5 = .int .i64 i ∧ RefAt wr g gB cap v { a with B := putAt a.B low (s.data.toList.take i), low := low } ∧ OthersKept w wr (fun k => k = g ∨ k = gB) ∧ wr.heap[w.heap.size]? = some (.cells #[.int .i64 0, .int .i64 0] 192)) (fun i _ => s.size - (intOf i).toNat)
  case atStart => exact ⟨0, Nat.zero_le _, rfl, by rw [List.take_zero, putAt_nil]; exact H1.out, HK1.out, B1.out⟩
  case round =>
    obtain ⟨i, hi, rfl, hA, hK, hB⟩ := hrel
    have HA := Lib.hid hA
    have HK := Lib.hid hK
    have HB := Lib.hid hB
    have hz := hzz.out
    by_cases hc : i < s.size
    · have hlen : (putAt a.B low (s.data.toList.take i)).length = a.B.length := putAt_len (by simp; omega)
      have c0 := hA.c0
      have c1 := hA.c1
      have hrow : RowAt wr gB (putAt a.B low (s.data.toList.take i)) := hA.row
      have hf := hrow.frozen (low + i) (by omega)
      have hcx := hrow.cell (low + i) (by omega)
      simp only at c0 c1
      rw [hlen] at c0
      have hst := putAt_step a.B low i s.data.toList (by omega) (by omega)
      have hsi : s.data.toList[i]'(by omega) = s[i]'hc := by simp; rfl
      rw [hsi] at hst
      have HS := Lib.hid (hA.set_byte (low + i) (s[i]'hc) (by simp only; omega))
      have HT := Lib.hid hst
      generalize (((putAt a.B low (s.data.toList.take i))[low + i]'(by omega)).toNat : Int) = qq at hcx
      clear hA hK hB hrow hst
      have hwl : IntKind.i64.wrap ((low : Int) + (i : Int)) = ((low + i : Nat) : Int) := by rw [show (low : Int) + (i : Int) = ((low + i : Nat) : Int) by omega]; exact IntWalk.i64_in _ ⟨by omega, by omega⟩
      clear hlow
      have hki : low + i < a.B.length := by omega
      generalize hkk : low + i = kk at *
      have hqx : ((kk : Nat) : Int) < (a.B.length : Int) := by omega
      have hqy : ((i : Nat) : Int) < (s.size : Int) := by omega
      have hqz : ¬ ((kk : Nat) : Int) < 0 := by omega
      have hqw : ¬ ((i : Nat) : Int) < 0 := by omega
      have hcx2 : wr.cell? ⟨gB, kk, none⟩ = some (.int .u8 qq) := hcx
      go_upto_region 5 with fail
      go_region_held3 (fun w' => w'.cell? ⟨g, 0, none⟩ = some (.slice (some ⟨gB, 0, none⟩) a.B.length cap) ∧ w'.cell? ⟨g, 1, none⟩ = some (.int .i64 low)) (first | (with_reducible exact ⟨c0, c1⟩) | exact ⟨cell_set_far c0 hne, cell_set_far c1 hne⟩ | exact ⟨c0, c1⟩) (fail)
      all_goals go_wp2_with fail
      all_goals go_roundw
      case rel =>
        have hr2 := HS.out.below ((Below.refl _ _).drew)
        simp only at hr2
        rw [HT.out] at hr2
        refine ⟨i + 1, by omega, by go_num, hr2, ?_, (set_keep HB.out (by omega))⟩
        exact HK.out.trans (OthersKept.of_grown (p := fun k => k = g ∨ k = gB) (g := gB) (grown_step ((Below.refl _ _)) (grown_trans (grown_set (grown_refl _ gB)) (grown_below _ ((Below.refl _ _).drew)))) (.inr rfl)) (fun _ _ h => h)
      case measure => simp [intOf]; omega
    · obtain rfl : i = s.size := by omega
      have c1 := hA.c1
      simp only at c1
      have d0 := blk_cell hB 0
      have d1 := blk_cell hB 1
      have e0 := blk_frozen hB 0
      have e1 := blk_frozen hB 1
      clear hA hK hB hlow
      go_wp2_with fail
      have hfull : s.data.toList.take s.size = s.data.toList := List.take_of_length_le (by omega)
      have hA2 := (HA.out.other (k := w.heap.size) (grown_set (u := .int .i64 low) (i := 0) (grown_refl _ w.heap.size)) (by omega) (by omega) (fun h => Nat.lt_irrefl _ (hvl _ h))).other (k := w.heap.size) (grown_set (u := .int .i64 s.size) (i := 1) (grown_refl _ w.heap.size)) (by omega) (by omega) (fun h => Nat.lt_irrefl _ (hvl _ h))
      rw [hfull] at hA2
      have b0 := blk_set (blk_set HB.out 0 (.int .i64 low)) 1 (.int .i64 s.size)
      have q0 := blk_cell b0 0
      have q1 := blk_cell b0 1
      rw [← hf2.out]
      refine bodyPost_ret (v := .agg #[.int .i64 low, .int .i64 s.size]) (by simp [results, Try.results169, go_sem, q0, q1]) rfl ⟨rfl, by rw [hres2.out]; exact hA2, ?_⟩
      exact HK.out.trans (OthersKept.of_grown (p := fun k => w.heap.size ≤ k) (g := w.heap.size) (grown_set (grown_set (grown_refl _ w.heap.size))) (Nat.le_refl _)) (fun k hk h => absurd hk (Nat.not_lt.2 h))

end Go.Proofs.Ytienlhnbmobinaa

namespace Go.Proofs.Ytienlhnbmobinaa
open Go.RowKit
set_option linter.unusedVariables false
set_option linter.unusedSimpArgs false

theorem places_set : ∀ (L : List (Nat × Nat)) (k : Nat) (p : Nat × Nat), k < L.length → ((places L).set (k * 2) (.int .i64 (p.1 : Nat))).set (k * 2 + 1) (.int .i64 (p.2 : Nat)) = places (L.set k p)
  | q :: r, 0, p, h => rfl
  | q :: r, k + 1, p, h => by
    rw [Nat.succ_mul]
    have := places_set r k p (by simpa using h)
    simp [places, this]

/-- One place of the directory stored anew. -/
theorem RefAt.set_dir {w : World} {g gB cap gd cp : Nat} {a : Ar} (k : Nat) (p : Nat × Nat) (hk : k < a.L.length) (h : RefAt w g gB cap (.slice (some ⟨gd, 0, none⟩) a.L.length cp) a) :
    RefAt ((w.setCell ⟨gd, k * 2, none⟩ (.int .i64 (p.1 : Nat))).setCell ⟨gd, k * 2 + 1, none⟩ (.int .i64 (p.2 : Nat))) g gB cap (.slice (some ⟨gd, 0, none⟩) (a.L.set k p).length cp) { a with L := a.L.set k p } := by
  obtain ⟨f1, f2⟩ := h.far gd rfl
  obtain ⟨s1, g1⟩ := h.dir.stored (k * 2) (.int .i64 (p.1 : Nat))
  obtain ⟨s2, g2⟩ := s1.stored (k * 2 + 1) (.int .i64 (p.2 : Nat))
  have g3 := grown_trans g1 g2
  rw [places_set a.L k p hk] at s2
  refine ⟨?_, h.row.of_eq (g3.block _ h.row.lt (by simp; exact Ne.symm f2)), by rw [List.length_set]; exact s2, h.ne, fun k hk => h.far k hk, h.room⟩
  rw [List.length_set]
  exact (g3.block _ (blk_lt h.own) (by simp; exact Ne.symm f1)).trans h.own

end Go.Proofs.Ytienlhnbmobinaa

namespace Go.Proofs.Ytienlhnbmobinaa
open Go.RowKit
set_option linter.unusedVariables false
set_option linter.unusedSimpArgs false

theorem own_empty2 (w : World) (e : TypeId) : (w.alloc (.cells #[] e)).ownsRow w.heap.size e 2 (.slice (some ⟨w.heap.size, 0, none⟩) 0 0) 0 [] :=
  World.ownsRow_made w #[] 0 (Nat.le_refl _) (by unfold maxLen; omega) rfl
theorem RefAt.new_dir {w : World} {g gB cap base : Nat} {v v' : Value} {a : Ar} {L' : List (Nat × Nat)} (h : RefAt w g gB cap v a) (ho : w.ownsRow base 192 2 v' L'.length (places L')) (h1 : g < base) (h2 : gB < base) :
    RefAt (w.setCell ⟨g, 2, none⟩ v') g gB cap v' { a with L := L' } := by
  refine ⟨by simpa using blk_set h.own 2 v', h.row.of_eq (Below.heap_setCell w ⟨g, 2, none⟩ _ gB (by simp; exact Ne.symm h.ne)), ?_, h.ne, fun k hk => by have := (ho.lt k hk).1; omega, h.room⟩
  have ho0 : w.ownsRow 0 192 2 v' L'.length (places L') := ⟨ho.1, ho.2.imp id fun ⟨g, cap, cur, h1, h2, h3⟩ => ⟨g, cap, cur, h1, Nat.zero_le _, h3⟩⟩
  refine ho0.kept (row := some g) (grown_set (grown_refl _ _)) ?_
  cases hv : v'.ownBlock with
  | none => exact .inl rfl
  | some k => exact .inr (by have := (ho.lt k hv).1; simp; omega)
theorem zero_step (B : List UInt8) (k i : Nat) (hk : k + i < B.length) : (putAt B k (List.replicate i 0)).set (k + i) 0 = putAt B k (List.replicate (i + 1) 0) := by
  have := putAt_step (B := B) (k := k) (i := i) (t := List.replicate (i + 1) 0) (by simp) (by simp; omega)
  simpa using this

end Go.Proofs.Ytienlhnbmobinaa

namespace Go.Proofs.Ytienlhnbmobinaa
open Go.RowKit
set_option linter.unusedVariables false
set_option linter.unusedSimpArgs false

set_option maxHeartbeats 1000000 in
set_option maxRecDepth 100000 in
theorem refTwo_any (n : Nat) (w : World) (hn : n < 256 ^ 2) :
    Calls Try.prog 171 #[.int .i64 n] w fun e w' => e = .returned (.string ⟨(be 2 n).toArray⟩) ∧ Below w.heap.size w w' := by
  have P := Lib.hid fun W => refPut_2 n W hn
  simp only [Nat.reducePow] at hn
  have v1 : IntKind.u64.wrap (n : Int) = n := IntWalk.u64_in _ ⟨by omega, by omega⟩
  generalize (⟨(be 2 n).toArray⟩ : ByteArray) = X at *
  go_enter Try.func171, Try.ntmps171
  go_wp2_with fail
  refine (P.out _).mono ?_
  rintro e w1 ⟨rfl, h1⟩
  go_wp2_with fail
  go_ret
  exact ⟨rfl, h1⟩

end Go.Proofs.Ytienlhnbmobinaa
