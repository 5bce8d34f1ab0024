/- The document's locks: where a key is. -/
import Derived.Test.YtoeaakadpillnaaRows
import Derived.Test.YtoeaakadpillnaaLockOnePlain
import Derived.Test.YtoeaakadpillnaaLockActs
import Derived.Test.YtoeaakadpillnaaLockRest
import Derived.Test.YtoeaakadpillnaaLockHeld
import Derived.Test.YtoeaakadpillnaaLockWalks
import Derived.Test.YtoeaakadpillnaaKept
import Derived.Test.YtoeaakadpillnaaQuietTail
import Derived.Deep.LoopGhost
import Derived.WalkKit
import Derived.WalkLawsBesides
import Derived.WalkSpells
import Derived.LoopTactic
import Derived.WalkMore
import Derived.LoopN
import Derived.Laws.BitsAllLaws
import Derived.Laws.IdiomStrings
import Derived.BigQuiet
import Derived.Deep.QuietTactic
import Derived.Deep.DeepCutAuto
import Derived.Deep.RegionHeld3
import Derived.Deep.DrawnRows
import Derived.Lib.Hide
import Derived.Outline
import Derived.Deep.DeepMust
import Derived.Handy
namespace Go.Proofs.Ytoeaakadpillnaa
open Go.RowKit
set_option linter.unusedVariables false
set_option linter.unusedSimpArgs false

/-- The document's locks in memory: keys and holders, each in a slice. -/
def nums (ts : List Nat) : List Value := ts.map fun (t : Nat) => .int .u64 (t : Int)
structure RefKT (w : World) (g : Nat) (vK vT : Value) (ks : List Bs) (ts : List Nat) : Prop where
  own : w.heap[g]? = some (.cells #[vK, vT] 41 (0, 0))
  keys : w.ownsRow 0 9 1 vK ks.length (strs ks)
  txs : w.ownsRow 0 27 1 vT ts.length (nums ts)
  farK : ∀ k, vK.ownBlock = some k → k ≠ g
  farT : ∀ k, vT.ownBlock = some k → k ≠ g
theorem RefKT.below {w w' : World} {g : Nat} {vK vT : Value} {ks : List Bs} {ts : List Nat} (h : RefKT w g vK vT ks ts) (hb : Below w.heap.size w w') : RefKT w' g vK vT ks ts :=
  ⟨(hb.block _ (blk_lt h.own)).trans h.own, own_below h.keys hb, own_below h.txs hb, h.farK, h.farT⟩
theorem RefKT.kept {w w' : World} {g : Nat} {vK vT : Value} {ks : List Bs} {ts : List Nat} {p : Nat → Prop} (h : RefKT w g vK vT ks ts) (hk : OthersKept w w' p) (h1 : ¬ p g) (h2 : ∀ k, vK.ownBlock = some k → ¬ p k) (h3 : ∀ k, vT.ownBlock = some k → ¬ p k) : RefKT w' g vK vT ks ts :=
  ⟨hk.heap h.own h1, hk.owns h.keys h2, hk.owns h.txs h3, h.farK, h.farT⟩
theorem RefKT.c0 {w : World} {g : Nat} {vK vT : Value} {ks : List Bs} {ts : List Nat} (h : RefKT w g vK vT ks ts) : w.cell? ⟨g, 0, none⟩ = some vK := by rw [blk_cell h.own]; rfl
theorem RefKT.c1 {w : World} {g : Nat} {vK vT : Value} {ks : List Bs} {ts : List Nat} (h : RefKT w g vK vT ks ts) : w.cell? ⟨g, 1, none⟩ = some vT := by rw [blk_cell h.own]; rfl
theorem own_base0 {w : World} {base n size : Nat} {e : TypeId} {v : Value} {xs : List Value} (h : w.ownsRow base e size v n xs) : w.ownsRow 0 e size v n xs := ⟨h.1, h.2.imp id fun ⟨g, cap, cur, h1, h2, h3⟩ => ⟨g, cap, cur, h1, Nat.zero_le _, h3⟩⟩
theorem own_set_far {w : World} {base n size g i : Nat} {u : Value} {e : TypeId} {v : Value} {xs : List Value} (h : w.ownsRow base e size v n xs) (hf : ∀ k, v.ownBlock = some k → k ≠ g) : (w.setCell ⟨g, i, none⟩ u).ownsRow base e size v n xs := by
  refine h.kept (row := some g) (grown_set (grown_refl _ _)) ?_
  cases hv : v.ownBlock with
  | none => exact .inl rfl
  | some k => exact .inr (by have := hf k hv; simp; omega)
theorem RefKT.setK {w : World} {g base : Nat} {vK vK' vT : Value} {ks ks' : List Bs} {ts : List Nat} (h : RefKT w g vK vT ks ts) (ho : w.ownsRow base 9 1 vK' ks'.length (strs ks')) (hl : g < base) : RefKT (w.setCell ⟨g, 0, none⟩ vK') g vK' vT ks' ts := by
  have hf : ∀ k, vK'.ownBlock = some k → k ≠ g := fun k hk => by have := (ho.lt k hk).1; omega
  exact ⟨by simpa using blk_set h.own 0 vK', own_base0 (own_set_far ho hf), own_set_far h.txs h.farT, hf, h.farT⟩
theorem RefKT.setT {w : World} {g base : Nat} {vK vT' vT : Value} {ks : List Bs} {ts ts' : List Nat} (h : RefKT w g vK vT ks ts) (ho : w.ownsRow base 27 1 vT' ts'.length (nums ts')) (hl : g < base) : RefKT (w.setCell ⟨g, 1, none⟩ vT') g vK vT' ks ts' := by
  have hf : ∀ k, vT'.ownBlock = some k → k ≠ g := fun k hk => by have := (ho.lt k hk).1; omega
  exact ⟨by simpa using blk_set h.own 1 vT', own_set_far h.keys h.farK, own_base0 (own_set_far ho hf), h.farK, hf⟩

/-- The same, of the plain table. -/
structure RefLk (w : World) (g : Nat) (vK vT : Value) (T : Lk) : Prop where
  rows : RefKT w g vK vT (T.map (·.1)) (T.map (·.2))
  rising : T.Rising
  small : T.length ≤ 1024
theorem RefLk.below {w w' : World} {g : Nat} {vK vT : Value} {T : Lk} (h : RefLk w g vK vT T) (hb : Below w.heap.size w w') : RefLk w' g vK vT T := ⟨h.rows.below hb, h.rising, h.small⟩
theorem RefLk.keyForm {w : World} {g : Nat} {vK vT : Value} {T : Lk} (h : RefLk w g vK vT T) : ∃ b cp, vK = .slice b T.length cp ∧ T.length ≤ cp ∧ cp ≤ maxLen ∧ (0 < T.length → ∃ g, b = some ⟨g, 0, none⟩) ∧ ∀ (j : Nat) (hj : j < T.length) gk, b = some ⟨gk, 0, none⟩ → w.cell? ⟨gk, j, none⟩ = some (.string ⟨(T[j]).1.toArray⟩) := by
  have hk := h.rows.keys
  rw [List.length_map] at hk
  obtain ⟨b, cp, rfl, h1, h2, h3⟩ := own_form hk
  refine ⟨b, cp, rfl, h1, h2, fun h0 => ?_, fun j hj gk he => ?_⟩
  · obtain ⟨g, hg, _⟩ := h3 h0
    exact ⟨g, hg⟩
  · subst he
    exact own_cell hk j _ (by unfold strs; rw [List.map_map, List.getElem?_map, List.getElem?_eq_getElem hj]; rfl)
theorem RefLk.txForm {w : World} {g : Nat} {vK vT : Value} {T : Lk} (h : RefLk w g vK vT T) : ∃ b cp, vT = .slice b T.length cp ∧ T.length ≤ cp ∧ cp ≤ maxLen ∧ (0 < T.length → ∃ g, b = some ⟨g, 0, none⟩) ∧ ∀ (j : Nat) (hj : j < T.length) gk, b = some ⟨gk, 0, none⟩ → w.cell? ⟨gk, j, none⟩ = some (.int .u64 ((T[j]).2 : Nat)) := by
  have hk := h.rows.txs
  rw [List.length_map] at hk
  obtain ⟨b, cp, rfl, h1, h2, h3⟩ := own_form hk
  refine ⟨b, cp, rfl, h1, h2, fun h0 => ?_, fun j hj gk he => ?_⟩
  · obtain ⟨g, hg, _⟩ := h3 h0
    exact ⟨g, hg⟩
  · subst he
    exact own_cell hk j _ (by unfold nums; rw [List.map_map, List.getElem?_map, List.getElem?_eq_getElem hj]; rfl)

set_option maxHeartbeats 2000000 in
set_option maxRecDepth 100000 in
theorem rkAt (g : Nat) (vK vT : Value) (T : Lk) (k : Bs) (w : World) (h : RefLk w g vK vT T) :
    Calls Try.prog 59 #[.pointer (some ⟨g, 0, none⟩), .string ⟨k.toArray⟩] w fun e w' => e = .returned (.tuple #[.int .i64 (atL T k : Nat), .bool (who T k).isSome]) ∧ Below w.heap.size w w' := by
  have c0 := h.rows.c0
  obtain ⟨b, cp, rfl, hcp, hcm, hbb, hcell⟩ := h.keyForm
  have hWH := Lib.hid (who_at h.rising k)
  have hAL := atL_le T k
  have hsm := h.small
  unfold maxLen at hcm
  have HC := Lib.hid hcell
  have HB := Lib.hid hbb
  clear hcell hbb h
  go_enter Try.func59, Try.ntmps59
  go_wp2_with fail
  go_loopw [6] (fun s6 wr => ∃ i : Nat, i ≤ atL T k ∧ s6 = .int .i64 i ∧ wr = w) (fun i _ => T.length - (intOf i).toNat)
  case atStart => exact ⟨0, Nat.zero_le _, rfl, rfl⟩
  case round =>
    obtain ⟨i, hi, rfl, rfl⟩ := hrel
    by_cases hc : i < T.length
    · obtain ⟨gk, rfl⟩ := HB.out (by omega)
      have t0 := HC.out i hc gk rfl
      have q0 : (0 : Int) ≤ (i : Int) := by omega
      have q1 : (i : Int) < (T.length : Int) := by omega
      have hst := atL_step hc hi
      by_cases hlt : T[i].1 < k
      · have hbl : Op.bytesLess T[i].1 k = true := by rw [Go.Proofs.bytesLess_eq]; simpa using hlt
        have hi2 := hst.2 hlt
        clear hst hlt
        generalize T[i].1 = kk at *
        go_wp2_with fail
        go_roundw
        case rel => exact ⟨i + 1, by omega, by go_num, trivial⟩
        case measure => simp [intOf]; omega
      · have hbl : Op.bytesLess T[i].1 k = false := by rw [Go.Proofs.bytesLess_eq]; simpa using hlt
        have hia : atL T k = i := by rcases Nat.lt_or_ge i (atL T k) with h | h
                                     · exact absurd (hst.1 h) hlt
                                     · omega
        clear hst hlt
        have hwi : Hid ((who T k).isSome = (T[i].1 == k)) := by
          show _ = _
          rw [hWH.out]
          simp only [hia, hc, dite_true]
          by_cases he : T[i].1 = k
          · simp [he]
          · simp [he]
        have e0 := ext_cell c0 (cell_lt c0)
        have et := ext_cell t0 (cell_lt t0)
        generalize T[i].1 = kk at *
        go_upto_region 4 with fail
        refine wp_region_ext wr.heap.size (by kernel_rfl) (by kernel_rfl) ?_
        repeat (go_big_quiet_step (fail))
        refine wpQuiet_nil ?_
        rintro _ ⟨X, rfl⟩
        have HX := Lib.hid X.below
        go_wp2_with fail
        go_ret2
        exact ⟨by rw [hia, hwi.out]; rfl, HX.out⟩
    · have hia : atL T k = i := by omega
      have hil : i = T.length := by omega
      have hwi : Hid ((who T k).isSome = false) := by
        show _ = _
        rw [hWH.out]
        simp [show ¬ atL T k < T.length by omega]
      have e0 := ext_cell c0 (cell_lt c0)
      go_upto_region 4 with fail
      refine wp_region_ext wr.heap.size (by kernel_rfl) (by kernel_rfl) ?_
      repeat (go_big_quiet_step (fail))
      refine wpQuiet_nil ?_
      rintro _ ⟨X, rfl⟩
      have HX := Lib.hid X.below
      go_wp2_with fail
      go_ret2
      exact ⟨by rw [hia, hwi.out]; rfl, HX.out⟩

end Go.Proofs.Ytoeaakadpillnaa
