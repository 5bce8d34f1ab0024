/- The document's area in memory: end, Gap, Free, Text -/
import Derived.Test.YtlpfilpijiglpaaRows
import Derived.Test.YtlpfilpijiglpaaSlotCompact
import Derived.Test.YtlpfilpijiglpaaSlotParse
import Derived.Test.YtlpfilpijiglpaaAppAny
import Derived.WalkKit
import Derived.WalkLawsBesides
import Derived.WalkSpells
import Derived.LoopTactic
import Derived.WalkMore
import Derived.LoopN
import Derived.Laws.BitsAllLaws
import Derived.Laws.IdiomStrings
import Derived.BigQuiet
import Derived.Deep.QuietTactic
import Derived.Deep.DeepCutAuto
import Derived.Deep.RegionHeld3
import Derived.Deep.DrawnRows
import Derived.Lib.Hide
import Derived.Outline
import Derived.Deep.DeepMust
import Derived.Handy
namespace Go.Proofs.Ytlpfilpijiglpaa
open Go.RowKit
set_option linter.unusedVariables false
set_option linter.unusedSimpArgs false

/-- The directory's cells. -/
def places : List (Nat × Nat) → List Value
  | [] => []
  | p :: r => .int .i64 (p.1 : Nat) :: .int .i64 (p.2 : Nat) :: places r
theorem places_length : ∀ L, (places L).length = L.length * 2
  | [] => rfl
  | p :: r => by simp [places, places_length r]; omega
theorem places_append : ∀ a b, places (a ++ b) = places a ++ places b
  | [], b => rfl
  | p :: r, b => by simp [places, places_append r]
theorem places_take : ∀ (L : List (Nat × Nat)) (k : Nat), (places L).take (k * 2) = places (L.take k)
  | [], k => by simp [places]
  | p :: r, 0 => by simp [places]
  | p :: r, k + 1 => by rw [Nat.succ_mul]; simp [places, places_take r k]
theorem places_drop : ∀ (L : List (Nat × Nat)) (k : Nat), (places L).drop (k * 2) = places (L.drop k)
  | [], k => by simp [places]
  | p :: r, 0 => by simp [places]
  | p :: r, k + 1 => by rw [Nat.succ_mul]; simp [places, places_drop r k]
theorem places_from : ∀ (L : List (Nat × Nat)) (k : Nat) (h : k < L.length), (places L)[k * 2]? = some (.int .i64 (L[k].1 : Nat))
  | p :: r, 0, h => rfl
  | p :: r, k + 1, h => by rw [Nat.succ_mul]; simpa [places] using places_from r k (by simpa using h)
theorem places_size : ∀ (L : List (Nat × Nat)) (k : Nat) (h : k < L.length), (places L)[k * 2 + 1]? = some (.int .i64 (L[k].2 : Nat))
  | p :: r, 0, h => rfl
  | p :: r, k + 1, h => by rw [Nat.succ_mul]; simpa [places] using places_size r k (by simpa using h)
theorem places_one (L : List (Nat × Nat)) : ∀ u ∈ places L, u.oneCell' = true := by
  induction L with
  | nil => intro u hu; cases hu
  | cons p r ih =>
    intro u hu
    simp only [places, List.mem_cons] at hu
    rcases hu with rfl | rfl | hu
    · rfl
    · rfl
    · exact ih u hu
theorem run_part {P : Program} {W : World} {g off n cap : Nat} {zs : List UInt8} (h : RowAt W g zs) (hn : off + n ≤ zs.length) (src e dst : TypeId) (hs : P.underlying src = some (.slice e)) (he : P.underlying e = some (.int .u8)) (hd : P.underlying dst = some .string) :
    (convert src dst (.slice (some ⟨g, off, none⟩) n cap)).run P W = .ok (.string ⟨((zs.drop off).take n).toArray⟩) W := by
  rw [run_convert_bytes_arg _ src e hs he g off n cap (((zs.drop off).take n).map fun b => (b.toNat : Int)) (by simp; omega) (fun i hi => by
    rw [h.cell (off + i) (by omega)]
    have : i < ((zs.drop off).take n).length := by simp; omega
    simp [List.getD_eq_getElem?_getD, show i < n by omega, List.getElem?_eq_getElem (show off + i < zs.length by omega)]) dst hd, strOfNums_bytes]
theorem below_drewN {B : Nat} {w w' : World} (h : Below B w w') (n : Nat) : Below B w (w'.drewN n) := ⟨h.os, h.tape, h.output, h.size, h.block⟩
/-- The document's area in memory: its struct, its bytes, its directory. -/
structure RefAt (w : World) (g gB cap : Nat) (v : Value) (a : Ar) : Prop where
  own : w.heap[g]? = some (.cells #[.slice (some ⟨gB, 0, none⟩) a.B.length cap, .int .i64 (a.low : Nat), v] 88 (0, 0))
  row : RowAt w gB a.B
  dir : w.ownsRow 0 93 2 v a.L.length (places a.L)
  ne : g ≠ gB
  far : ∀ k, v.ownBlock = some k → k ≠ g ∧ k ≠ gB
  room : a.B.length ≤ cap
theorem RefAt.below {w w' : World} {g gB cap : Nat} {v : Value} {a : Ar} (h : RefAt w g gB cap v a) (hb : Below w.heap.size w w') : RefAt w' g gB cap v a :=
  ⟨(hb.block _ (blk_lt h.own)).trans h.own, h.row.below hb, own_below h.dir hb, h.ne, h.far, h.room⟩
theorem RefAt.c0 {w : World} {g gB cap : Nat} {v : Value} {a : Ar} (h : RefAt w g gB cap v a) : w.cell? ⟨g, 0, none⟩ = some (.slice (some ⟨gB, 0, none⟩) a.B.length cap) := by rw [blk_cell h.own]; rfl
theorem RefAt.c1 {w : World} {g gB cap : Nat} {v : Value} {a : Ar} (h : RefAt w g gB cap v a) : w.cell? ⟨g, 1, none⟩ = some (.int .i64 (a.low : Nat)) := by rw [blk_cell h.own]; rfl
theorem RefAt.c2 {w : World} {g gB cap : Nat} {v : Value} {a : Ar} (h : RefAt w g gB cap v a) : w.cell? ⟨g, 2, none⟩ = some v := by rw [blk_cell h.own]; rfl
theorem dir_form {w : World} {base n : Nat} {e : TypeId} {v : Value} {xs : List Value} (h : w.ownsRow base e 2 v n xs) : ∃ b cp, v = .slice b n cp ∧ n ≤ cp ∧ cp ≤ maxLen ∧ (0 < n → ∃ g, b = some ⟨g, 0, none⟩) := by
  rcases h.2 with ⟨rfl, rfl⟩ | ⟨g, cap, cur, rfl, hb, hg, h1, h2, _⟩
  · exact ⟨none, 0, rfl, Nat.le_refl _, Nat.zero_le _, fun h => absurd h (Nat.lt_irrefl 0)⟩
  · exact ⟨_, cap, rfl, h1, h2, fun _ => ⟨g, rfl⟩⟩
theorem dir_cell {w : World} {base n g cp : Nat} {e : TypeId} {xs : List Value} (h : w.ownsRow base e 2 (.slice (some ⟨g, 0, none⟩) n cp) n xs) (j : Nat) (u : Value) (hu : xs[j]? = some u) : w.cell? ⟨g, j, none⟩ = some u := by
  have := h.cells (g := g) rfl j u hu
  rwa [show (⟨g, 0, none⟩ : Addr).add j = ⟨g, j, none⟩ by unfold Addr.add; split <;> simp_all] at this

set_option maxHeartbeats 1000000 in
set_option maxRecDepth 100000 in
theorem refEnd_any (g gB cap : Nat) (v : Value) (a : Ar) (w : World) (hn : a.L.length ≤ 100000) (h : RefAt w g gB cap v a) :
    Calls Try.prog 81 #[.pointer (some ⟨g, 0, none⟩)] w fun e w' => e = .returned (.int .i64 (a.fin : Nat)) ∧ Below w.heap.size w w' := by
  have c2 := h.c2
  obtain ⟨b, cp, rfl, hcp, _, _⟩ := dir_form h.dir
  have hf : Hid (a.fin = 4 + 4 * a.L.length) := rfl
  clear h
  have m1 : IntKind.i64.wrap (4 * (a.L.length : Int)) = 4 * (a.L.length : Int) := IntWalk.i64_in _ ⟨by omega, by omega⟩
  have m2 : IntKind.i64.wrap (4 + 4 * (a.L.length : Int)) = (a.fin : Int) := by rw [hf.out, show ((4 + 4 * a.L.length : Nat) : Int) = 4 + 4 * (a.L.length : Int) by omega]; exact IntWalk.i64_in _ ⟨by omega, by omega⟩
  go_enter Try.func81, Try.ntmps81
  go_wp2_with fail
  go_ret
  exact ⟨ret_int (by have := hf.out; omega), Below.refl _ _⟩

set_option maxHeartbeats 1000000 in
set_option maxRecDepth 100000 in
theorem refGap_any (g gB cap : Nat) (v : Value) (a : Ar) (w : World) (ha : a.Fit) (h : RefAt w g gB cap v a) :
    Calls Try.prog 62 #[.pointer (some ⟨g, 0, none⟩)] w fun e w' => e = .returned (.int .i64 a.gap) ∧ Below w.heap.size w w' := by
  have c1 := ext_cell h.c1 (cell_lt h.c1)
  have hn := ha.n
  have b1 := ha.l
  have b2 := ha.hi
  have b3 := ha.f
  have E := Lib.hid fun W hW => refEnd_any g gB cap v a W (by omega) hW
  have H := Lib.hid h
  have m1 : IntKind.i64.wrap ((a.low : Int) - (a.fin : Int)) = a.gap := IntWalk.i64_in _ ⟨by omega, by omega⟩
  clear h
  go_enter Try.func62, Try.ntmps62
  go_wp2_with fail
  refine wp_region_ext w.heap.size (by kernel_rfl) (by kernel_rfl) ?_
  repeat (go_big_quiet_step ((go_at_call 81; exact ext_call _ (Nat.le_refl _) (E.out _ (H.out.below (Ext.below _))))))
  refine wpQuiet_nil ?_
  rintro _ ⟨X, rfl⟩
  have HX := Lib.hid X.below
  generalize X.val = wx at HX
  clear c1
  go_wp2_with fail
  go_ret
  exact ⟨by first | rfl | (rw [m1]; rfl), HX.out⟩

theorem sum_take_L (L : List (Nat × Nat)) (k : Nat) (h : k < L.length) : ((L.take (k + 1)).map (·.2)).sum = ((L.take k).map (·.2)).sum + L[k].2 := by
  rw [List.take_succ_eq_append_getElem h, List.map_append, List.sum_append]
  simp
theorem sum_take_Lle (L : List (Nat × Nat)) (k : Nat) : ((L.take k).map (·.2)).sum ≤ (L.map (·.2)).sum := by
  conv => rhs; rw [← List.take_append_drop k L, List.map_append, List.sum_append]
  omega

set_option maxHeartbeats 2000000 in
set_option maxRecDepth 100000 in
theorem refFree_any (g gB cap : Nat) (v : Value) (a : Ar) (w : World) (hg : a.Good) (h : RefAt w g gB cap v a) :
    Calls Try.prog 61 #[.pointer (some ⟨g, 0, none⟩)] w fun e w' => e = .returned (.int .i64 a.free) ∧ Below w.heap.size w w' := by
  have c0 := ext_cell h.c0 (cell_lt h.c0)
  have ha := hg.fit
  have hn := ha.n
  have b1 := ha.l
  have b2 := ha.hi
  have b3 := ha.f
  have hsum := hg.sum_le
  have E := Lib.hid fun W hW => refEnd_any g gB cap v a W (by omega) hW
  have H := Lib.hid h
  have hfr : Hid (a.free = (a.B.length : Int) - (a.fin : Int) - (a.sum : Int)) := rfl
  have hsm : Hid (((a.L.take a.L.length).map (·.2)).sum = a.sum) := by show _ = (a.L.map (·.2)).sum; rw [List.take_of_length_le (Nat.le_refl _)]
  have m1 : IntKind.i64.wrap ((a.B.length : Int) - (a.fin : Int)) = (a.B.length : Int) - (a.fin : Int) := IntWalk.i64_in _ ⟨by omega, by omega⟩
  clear h
  go_enter Try.func61, Try.ntmps61
  go_wp2_with fail
  refine wp_region_ext w.heap.size (by kernel_rfl) (by kernel_rfl) ?_
  repeat (go_big_quiet_step ((go_at_call 81; exact ext_call _ (Nat.le_refl _) (E.out _ (H.out.below (Ext.below _))))))
  refine wpQuiet_nil ?_
  rintro _ ⟨X, rfl⟩
  have hx := X.below
  generalize X.val = wx at hx
  have HX := Lib.hid hx
  have HR := Lib.hid (H.out.below hx)
  clear c0 hx
  obtain ⟨b, cp, rfl, hcp, hcm, hb⟩ := dir_form HR.out.dir
  have HB := Lib.hid hb
  have c2 := HR.out.c2
  clear hb
  go_wp2_with fail
  go_loop [3, 4] (fun s3 s4 => ∃ k : Nat, k ≤ a.L.length ∧ s4 = .int .i64 k ∧ s3 = .int .i64 ((a.B.length : Int) - (a.fin : Int) - (((a.L.take k).map (·.2)).sum : Nat))) (fun _ i => a.L.length - (intOf i).toNat)
  case atStart => exact ⟨0, Nat.zero_le _, rfl, by simp⟩
  case round =>
    obtain ⟨k, hk, rfl, rfl⟩ := hrel
    by_cases hc : k < a.L.length
    · obtain ⟨gL, rfl⟩ := HB.out (by omega)
      have d1 := dir_cell HR.out.dir _ _ (places_size a.L k hc)
      have hs1 := sum_take_L a.L k hc
      have hs2 := sum_take_Lle a.L (k + 1)
      have hs3 : (a.L.map (·.2)).sum = a.sum := rfl
      have HS1 := Lib.hid hs1
      have q0 : (0 : Int) ≤ (k : Int) := by omega
      have q1 : (k : Int) < (a.L.length : Int) := by omega
      have hle : ((a.L.take k).map (·.2)).sum + a.L[k].2 ≤ 4096 := by omega
      clear hs1 hs2 hs3
      generalize ((a.L.take k).map (·.2)).sum = S at *
      generalize a.L[k].2 = Z at *
      obtain ⟨N, hN⟩ : ∃ N : Int, N = (a.B.length : Int) - (a.fin : Int) - (S : Int) := ⟨_, rfl⟩
      have e1 : Hid (N - (Z : Int) = (a.B.length : Int) - (a.fin : Int) - ((S + Z : Nat) : Int)) := by show _ = _; omega
      have w1 : IntKind.i64.wrap (N - (Z : Int)) = N - (Z : Int) := IntWalk.i64_in _ ⟨by omega, by omega⟩
      rw [← hN]
      clear hN
      go_wp2_with fail
      go_round
      case rel => exact ⟨k + 1, by omega, by go_num, by rw [e1.out, HS1.out]⟩
      case measure => simp [intOf]; omega
    · obtain rfl : k = a.L.length := by omega
      rw [hsm.out]
      go_wp2_with fail
      go_ret
      exact ⟨ret_int (by rw [hfr.out]), HX.out⟩

set_option maxHeartbeats 1000000 in
set_option maxRecDepth 100000 in
theorem refText_any (g gB cap k : Nat) (v : Value) (a : Ar) (w : World) (hg : a.Good) (hk : k < a.L.length) (h : RefAt w g gB cap v a) :
    Calls Try.prog 63 #[.pointer (some ⟨g, 0, none⟩), .int .i64 k] w fun e w' => e = .returned (.string ⟨(a.text a.L[k]).toArray⟩) ∧ Below w.heap.size w w' := by
  obtain ⟨b, cp, rfl, hcp, hcm, hb⟩ := dir_form h.dir
  obtain ⟨gL, rfl⟩ := hb (by omega)
  have H := Lib.hid h
  have c0 := h.c0
  have c2 := h.c2
  have d0 := dir_cell h.dir _ _ (places_from a.L k hk)
  have d1 := dir_cell h.dir _ _ (places_size a.L k hk)
  have hin := hg.inn _ (List.getElem_mem hk)
  have hhi := hg.hi
  have hroom := h.room
  have hT : Hid (a.text a.L[k] = (a.B.drop a.L[k].1).take a.L[k].2) := rfl
  have q0 : (0 : Int) ≤ (k : Int) := by omega
  have q1 : (k : Int) < (a.L.length : Int) := by omega
  have hin2 := hin.2
  clear h hb hin
  generalize a.L[k].1 = F at *
  generalize a.L[k].2 = Z at *
  have s1 : (F : Int) ≤ (F : Int) + (Z : Int) := by omega
  have s2 : (0 : Int) ≤ (F : Int) + (Z : Int) := by omega
  have s3 : (F : Int) + (Z : Int) ≤ (cap : Int) := by omega
  have hrow : ∀ W : World, W.heap = w.heap → RowAt W gB a.B := fun W hW => H.out.row.of_eq (by rw [hW])
  have hcv : ∀ (n : Nat), (convert 38 9 (.slice (some ⟨gB, F, none⟩) Z (cap - F))).run Try.prog (w.drewN n) = .ok (.string ⟨((a.B.drop F).take Z).toArray⟩) (w.drewN n) :=
    fun n => run_part (hrow (w.drewN n) rfl) hin2 _ 5 _ Try.underlying38 Try.underlying5 Try.underlying9
  by_cases hcc : cap = F
  · have z0 : Z = 0 := by omega
    subst z0
    have hcv0 : ∀ (n : Nat), (convert 38 9 (.slice (some ⟨gB, 0, none⟩) 0 0)).run Try.prog (w.drewN n) = .ok (.string ⟨#[]⟩) (w.drewN n) :=
      fun n => by
        have := run_part (P := Try.prog) (cap := 0) (off := 0) (n := 0) (hrow (w.drewN n) rfl) (by omega) 38 5 9 Try.underlying38 Try.underlying5 Try.underlying9
        simpa using this
    subst hcc
    clear hcv
    have s4 : (cap : Int) ≤ (cap : Int) + 0 := by omega
    go_enter Try.func63, Try.ntmps63
    go_wp2_with fail
    go_quiet (fail)
    go_wp2_with fail
    go_ret
    exact ⟨ret_str1 (by rw [hT.out]; simp), below_drewN (Below.refl _ _) _⟩
  · have hcc1 : ¬ (F : Int) = (cap : Int) := by omega
    go_enter Try.func63, Try.ntmps63
    go_wp2_with fail
    go_quiet (fail)
    go_wp2_with fail
    go_ret
    exact ⟨ret_str1 (by rw [hT.out]), below_drewN (Below.refl _ _) _⟩

end Go.Proofs.Ytlpfilpijiglpaa
