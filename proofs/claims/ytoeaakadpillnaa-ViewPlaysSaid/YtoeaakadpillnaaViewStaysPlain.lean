/- chapter 24: two views while transactions begin and end. -/
import Derived.Test.YtoeaakadpillnaaRows
import Derived.Test.YtoeaakadpillnaaViewNil
import Derived.Test.YtoeaakadpillnaaNumsIn
import Derived.Test.YtoeaakadpillnaaViewCopied
import Derived.Test.YtoeaakadpillnaaViewWorks
import Derived.Test.YtoeaakadpillnaaViewRef
import Derived.Test.YtoeaakadpillnaaViewOf
import Derived.Test.YtoeaakadpillnaaViewCpt
import Derived.Test.YtoeaakadpillnaaViewCmp
import Derived.Test.YtoeaakadpillnaaViewDel
import Derived.Test.YtoeaakadpillnaaViewOut
import Derived.Test.YtoeaakadpillnaaViewSame
import Derived.Test.YtoeaakadpillnaaViewSees
import Derived.Test.YtoeaakadpillnaaViewNums
import Derived.Test.YtoeaakadpillnaaLockRefTake
import Derived.Test.YtoeaakadpillnaaLockActs
import Derived.Test.YtoeaakadpillnaaOpenFlat
import Derived.Test.YtoeaakadpillnaaSortUTop
import Derived.Test.YtoeaakadpillnaaLockRef
import Derived.Test.YtoeaakadpillnaaKept
import Derived.Test.YtoeaakadpillnaaQuietTail
import Derived.Test.YtoeaakadpillnaaAppAny
import Derived.Deep.LoopGhost
import Derived.Deep.CutBlock
import Derived.Lib.SliceRun
import Derived.Laws.ResultCell
import Derived.WalkKit
import Derived.WalkLawsBesides
import Derived.WalkSpells
import Derived.LoopTactic
import Derived.WalkMore
import Derived.LoopN
import Derived.Laws.BitsAllLaws
import Derived.Laws.IdiomStrings
import Derived.BigQuiet
import Derived.Deep.QuietTactic
import Derived.Deep.DeepCutAuto
import Derived.Deep.RegionHeld3
import Derived.Deep.DrawnRows
import Derived.Lib.Hide
import Derived.Outline
import Derived.Deep.DeepMust
import Derived.Handy
namespace Go.Proofs.Ytoeaakadpillnaa
open Go.RowKit
set_option linter.unusedVariables false
set_option linter.unusedSimpArgs false

/-- Bytes that came in. -/
def BytAt (w : World) (sv : Value) (bs : List Nat) : Prop :=
  ∃ A cp, sv = .slice A bs.length cp ∧ bs.length ≤ cp ∧ cp ≤ maxLen ∧ (∀ x ∈ bs, x < 256) ∧ (0 < bs.length → ∃ b o, A = some ⟨b, o, none⟩ ∧ b < w.heap.size ∧ ∀ j (h : j < bs.length), w.cell? ⟨b, o + j, none⟩ = some (.int .u8 (bs[j] : Nat)))
theorem bytes_of_row {w : World} {a : Option Addr} {len cap : Nat} {zs : List Int} (h : IsRow .u8 w a len cap zs) : ∃ xs : List Nat, BytAt w (.slice a len cap) xs := by
  rcases h with ⟨rfl, rfl, rfl, rfl⟩ | ⟨x, rfl, hl, hm, hz, hc, hw⟩
  · exact ⟨[], none, 0, rfl, Nat.le_refl _, Nat.zero_le _, fun x h => (by cases h), fun h => absurd h (Nat.lt_irrefl 0)⟩
  · have hlen : ((zs.take len).map Int.toNat).length = len := by simp; omega
    have hj : ∀ j (h : j < ((zs.take len).map Int.toNat).length), ∃ n : Nat, w.cell? (x.add j) = some (.int .u8 (n : Int)) ∧ ((zs.take len).map Int.toNat)[j] = n ∧ n < 256 := by
      intro j h
      have hjz : j < zs.length := by omega
      have h1 := hc j hjz
      have hg : zs.getD j 0 = zs[j] := by simp [hjz]
      have h2 := hw (zs.getD j 0) (by rw [hg]; exact List.getElem_mem hjz)
      obtain ⟨m, hm, hlt⟩ := natOf h2 (by decide) (b := 256) (by decide)
      refine ⟨m, by rw [h1, hm], ?_, hlt⟩
      rw [List.getElem_map, List.getElem_take]
      rw [hg] at hm
      rw [hm]
      rfl
    refine ⟨(zs.take len).map Int.toNat, some x, cap, by rw [hlen], by rw [hlen]; exact hl, hm, fun y hy => ?_, fun h0 => ?_⟩
    · obtain ⟨j, h, rfl⟩ := List.getElem_of_mem hy
      obtain ⟨n, _, h2, h3⟩ := hj j h
      rw [h2]
      exact h3
    · obtain ⟨n, h1, _, _⟩ := hj 0 h0
      have e0 : x.add 0 = x := rfl
      rw [e0] at h1
      obtain ⟨b, o, rfl⟩ := spot_none h1
      refine ⟨b, o, rfl, cell_lt h1, fun j h => ?_⟩
      obtain ⟨n2, h2, h3, _⟩ := hj j h
      rw [Addr.add_lit] at h2
      rw [h2, h3]
theorem sees_iff (n : Nat) (ys : List Nat) (tx : Nat) : seesV 0 n ys tx = true ↔ tx ≠ 0 ∧ tx < n ∧ tx ∉ ys := by
  unfold seesV
  simp
  omega
/-- What goes on while both views are taken. -/
structure VI (lat j nx : Nat) (act ya yb : List Nat) (na nb : Nat) : Prop where
  mem : ∀ z ∈ act, 1 ≤ z ∧ z < nx
  nx1 : 1 ≤ nx
  sa : ∀ tx, seesV 0 na ya tx = true → tx < na ∧ tx < nx ∧ tx ∉ act
  sb : lat < j → ∀ tx, seesV 0 na ya tx = true → seesV 0 nb yb tx = true
theorem VI.start (lat : Nat) : VI lat 0 1 [] [] [] 0 0 :=
  ⟨(fun z h => by cases h), Nat.le_refl _, (fun tx h => by have := (sees_iff 0 [] tx).1 h; omega), (fun h => by omega)⟩
theorem VI.setA {lat j nx : Nat} {act ya yb ys : List Nat} {na nb : Nat} (h : VI lat j nx act ya yb na nb) (hj : j ≤ lat) (hy : OfL 0 nx act ys) : VI lat j nx act ys yb nx nb := by
  refine ⟨h.mem, h.nx1, fun tx ht => ?_, fun hl => by omega⟩
  obtain ⟨h1, h2, h3⟩ := (sees_iff nx ys tx).1 ht
  refine ⟨h2, h2, fun hm => h3 ((hy.2.1 tx).2 ⟨hm, ?_⟩)⟩
  unfold outV
  rw [decide_eq_false (by omega), decide_eq_false h1]
  rfl
theorem VI.setB {lat nx : Nat} {act ya yb ys : List Nat} {na nb : Nat} (h : VI lat lat nx act ya yb na nb) (hy : OfL 0 nx act ys) : VI lat (lat + 1) nx act ya ys na nx := by
  refine ⟨h.mem, h.nx1, h.sa, fun _ tx ht => ?_⟩
  obtain ⟨h1, h2, h3⟩ := h.sa tx ht
  exact (sees_iff nx ys tx).2 ⟨((sees_iff na ya tx).1 ht).1, h2, fun hm => h3 ((hy.2.1 tx).1 hm).1⟩
theorem VI.skipB {lat i nx : Nat} {act ya yb : List Nat} {na nb : Nat} (h : VI lat i nx act ya yb na nb) (hne : i ≠ lat) : VI lat (i + 1) nx act ya yb na nb :=
  ⟨h.mem, h.nx1, h.sa, fun hl => h.sb (by omega)⟩
theorem VI.push {lat j nx : Nat} {act ya yb : List Nat} {na nb : Nat} (h : VI lat j nx act ya yb na nb) : VI lat j (nx + 1) (act ++ [nx]) ya yb na nb := by
  refine ⟨fun z hz => ?_, by omega, fun tx ht => ?_, h.sb⟩
  · rcases List.mem_append.1 hz with hz | hz
    · have := h.mem z hz; omega
    · have := h.nx1; have := List.mem_singleton.1 hz; omega
  · obtain ⟨h1, h2, h3⟩ := h.sa tx ht
    refine ⟨h1, by omega, fun hm => ?_⟩
    rcases List.mem_append.1 hm with hm | hm
    · exact h3 hm
    · have := List.mem_singleton.1 hm; omega
theorem VI.pop {lat j nx : Nat} {act ya yb : List Nat} {na nb : Nat} (h : VI lat j nx act ya yb na nb) (k : Nat) : VI lat j nx (act.take k ++ act.drop (k + 1)) ya yb na nb := by
  have hm : ∀ z, z ∈ act.take k ++ act.drop (k + 1) → z ∈ act := fun z hz => by
    rcases List.mem_append.1 hz with hz | hz
    · exact List.mem_of_mem_take hz
    · exact List.mem_of_mem_drop hz
  exact ⟨fun z hz => h.mem z (hm z hz), h.nx1, fun tx ht => ⟨(h.sa tx ht).1, (h.sa tx ht).2.1, fun hz => (h.sa tx ht).2.2 (hm tx hz)⟩, h.sb⟩

/-- Both views and the list, in memory. -/
structure VS (w0 : World) (g9 g10 : Nat) (w : World) (act : List Nat) (b : Option Addr) (cp na : Nat) (ya : List Nat) (ba : Option Addr) (ca nb : Nat) (yb : List Nat) (bb : Option Addr) (cb : Nat) : Prop where
  bel : Below w0.heap.size w0 w
  g0 : w0.heap.size ≤ g9
  g1 : g9 < g10
  A : w.heap[g9]? = some (.cells #[.int .u64 0, .int .u64 na, .slice ba ya.length ca] 50 (0, 0))
  B : w.heap[g10]? = some (.cells #[.int .u64 0, .int .u64 nb, .slice bb yb.length cb] 50 (0, 0))
  row : w.ownsRow (g10 + 1) 27 1 (.slice b act.length cp) act.length (nums act)
  rowA : w.ownsRow (g10 + 1) 27 1 (.slice ba ya.length ca) ya.length (nums ya)
  rowB : w.ownsRow (g10 + 1) 27 1 (.slice bb yb.length cb) yb.length (nums yb)
  dA : ∀ k, (Value.slice b act.length cp).ownBlock = some k → (Value.slice ba ya.length ca).ownBlock ≠ some k
  dB : ∀ k, (Value.slice b act.length cp).ownBlock = some k → (Value.slice bb yb.length cb).ownBlock ≠ some k
section
variable {w0 w w1 : World} {g9 g10 : Nat} {act : List Nat} {b : Option Addr} {cp na : Nat} {ya : List Nat} {ba : Option Addr} {ca nb : Nat} {yb : List Nat} {bb : Option Addr} {cb : Nat}
theorem VS.below (h : VS w0 g9 g10 w act b cp na ya ba ca nb yb bb cb) (hb : Below w.heap.size w w1) : VS w0 g9 g10 w1 act b cp na ya ba ca nb yb bb cb :=
  ⟨below_trans2 h.bel hb, h.g0, h.g1, (hb.block _ (blk_lt h.A)).trans h.A, (hb.block _ (blk_lt h.B)).trans h.B, own_below h.row hb, own_below h.rowA hb, own_below h.rowB hb, h.dA, h.dB⟩
theorem set3 (W : World) (g : Nat) (x y z : Value) : OthersKept W (((W.setCell ⟨g, 0, none⟩ x).setCell ⟨g, 1, none⟩ y).setCell ⟨g, 2, none⟩ z) (fun k => k = g) := OthersKept.of_grown (p := fun k => k = g) (g := g) (grown_set (grown_set (grown_set (grown_refl _ _)))) rfl
theorem set3_blk {W : World} {g : Nat} {t : TypeId} {a0 a1 a2 x y z : Value} (h : W.heap[g]? = some (.cells #[a0, a1, a2] t (0, 0))) : (((W.setCell ⟨g, 0, none⟩ x).setCell ⟨g, 1, none⟩ y).setCell ⟨g, 2, none⟩ z).heap[g]? = some (.cells #[x, y, z] t (0, 0)) := by
  have xb := blk_set (blk_set (blk_set h 0 x) 1 y) 2 z
  simp only [List.setIfInBounds_toArray, List.set_cons_zero, List.set_cons_succ] at xb
  exact xb
theorem VS.setA (h : VS w0 g9 g10 w act b cp na ya ba ca nb yb bb cb) (hb : Below w.heap.size w w1) {nx : Nat} {ys : List Nat} {b2 : Option Addr} {c2 : Nat} (ho : w1.ownsRow w.heap.size 27 1 (.slice b2 ys.length c2) ys.length (nums ys)) :
    VS w0 g9 g10 (((w1.setCell ⟨g9, 0, none⟩ (.int .u64 0)).setCell ⟨g9, 1, none⟩ (.int .u64 nx)).setCell ⟨g9, 2, none⟩ (.slice b2 ys.length c2)) act b cp nx ys b2 c2 nb yb bb cb := by
  have h1 := h.below hb
  have hk := set3 w1 g9 (.int .u64 0) (.int .u64 nx) (.slice b2 ys.length c2)
  have hg := h.g1
  have hg0 := h.g0
  have hlt := blk_lt h.B
  refine ⟨hk.below h1.bel (fun k hk2 h => by omega), hg0, hg, set3_blk h1.A, hk.heap h1.B (by omega), hk.owns h1.row (fun k hk2 h => by have := own_block h1.row k hk2; omega), hk.owns (own_down ho (by omega)) (fun k hk2 h => by have := own_block ho k hk2; omega), hk.owns h1.rowB (fun k hk2 h => by have := own_block h1.rowB k hk2; omega), fun k hk2 h3 => ?_, h1.dB⟩
  have := (h.row.lt k hk2).2
  have := own_block ho k h3
  omega
theorem VS.setB (h : VS w0 g9 g10 w act b cp na ya ba ca nb yb bb cb) (hb : Below w.heap.size w w1) {nx : Nat} {ys : List Nat} {b2 : Option Addr} {c2 : Nat} (ho : w1.ownsRow w.heap.size 27 1 (.slice b2 ys.length c2) ys.length (nums ys)) :
    VS w0 g9 g10 (((w1.setCell ⟨g10, 0, none⟩ (.int .u64 0)).setCell ⟨g10, 1, none⟩ (.int .u64 nx)).setCell ⟨g10, 2, none⟩ (.slice b2 ys.length c2)) act b cp na ya ba ca nx ys b2 c2 := by
  have h1 := h.below hb
  have hk := set3 w1 g10 (.int .u64 0) (.int .u64 nx) (.slice b2 ys.length c2)
  have hg := h.g1
  have hg0 := h.g0
  have hlt := blk_lt h.B
  refine ⟨hk.below h1.bel (fun k hk2 h => by omega), hg0, hg, hk.heap h1.A (by omega), set3_blk h1.B, hk.owns h1.row (fun k hk2 h => by have := own_block h1.row k hk2; omega), hk.owns h1.rowA (fun k hk2 h => by have := own_block h1.rowA k hk2; omega), hk.owns (own_down ho (by omega)) (fun k hk2 h => by have := own_block ho k hk2; omega), h1.dA, fun k hk2 h3 => ?_⟩
  have := (h.row.lt k hk2).2
  have := own_block ho k h3
  omega
theorem VS.push (h : VS w0 g9 g10 w act b cp na ya ba ca nb yb bb cb) (hg : w.grownBy w1 (Value.slice b act.length cp).ownBlock) {zs : List Nat} {b2 : Option Addr} {c2 : Nat} (ho : w1.ownsRow (g10 + 1) 27 1 (.slice b2 zs.length c2) zs.length (nums zs))
    (hd : (Value.slice b2 zs.length c2).ownBlock = (Value.slice b act.length cp).ownBlock ∨ (Value.slice b2 zs.length c2).ownBlock = some w.heap.size) : VS w0 g9 g10 w1 zs b2 c2 na ya ba ca nb yb bb cb := by
  have hgg := h.g1
  have hne : ∀ g, g < g10 + 1 → some g ≠ (Value.slice b act.length cp).ownBlock := fun g hl e => by have := own_block h.row g e.symm; omega
  have hg0 := h.g0
  refine ⟨h.bel.grown hg h.bel.size (fun k hk => by have := own_block h.row k hk; omega), h.g0, h.g1, (hg.block _ (blk_lt h.A) (hne _ (by omega))).trans h.A, (hg.block _ (blk_lt h.B) (hne _ (by omega))).trans h.B, ho,
    h.rowA.kept hg ?_, h.rowB.kept hg ?_, fun k hk h3 => ?_, fun k hk h3 => ?_⟩
  · cases hv : (Value.slice ba ya.length ca).ownBlock with
    | none => exact .inl rfl
    | some g => exact .inr (fun e => h.dA g e.symm hv)
  · cases hv : (Value.slice bb yb.length cb).ownBlock with
    | none => exact .inl rfl
    | some g => exact .inr (fun e => h.dB g e.symm hv)
  · rcases hd with hd | hd
    · exact h.dA k (by rw [← hd]; exact hk) h3
    · rw [hd] at hk
      injection hk with hk
      have := (h.rowA.lt k h3).2
      omega
  · rcases hd with hd | hd
    · exact h.dB k (by rw [← hd]; exact hk) h3
    · rw [hd] at hk
      injection hk with hk
      have := (h.rowB.lt k h3).2
      omega
theorem VS.pop (h : VS w0 g9 g10 w act b cp na ya ba ca nb yb bb cb) (hb : Below w.heap.size w w1) {zs : List Nat} {b2 : Option Addr} {c2 : Nat} (ho : w1.ownsRow w.heap.size 27 1 (.slice b2 zs.length c2) zs.length (nums zs)) : VS w0 g9 g10 w1 zs b2 c2 na ya ba ca nb yb bb cb := by
  have h1 := h.below hb
  have := blk_lt h.B
  refine ⟨h1.bel, h.g0, h.g1, h1.A, h1.B, own_down ho (by omega), h1.rowA, h1.rowB, fun k hk h3 => ?_, fun k hk h3 => ?_⟩
  · have := (h.rowA.lt k h3).2
    have := own_block ho k hk
    omega
  · have := (h.rowB.lt k h3).2
    have := own_block ho k hk
    omega
end

end Go.Proofs.Ytoeaakadpillnaa
