/- chapter 23: All. -/
import Derived.Test.YtoeaakadpillnaaRows
import Derived.Test.YtoeaakadpillnaaTxnSeq
import Derived.Test.YtoeaakadpillnaaTxnWalks
import Derived.Test.YtoeaakadpillnaaSortUTop
import Derived.Test.YtoeaakadpillnaaAppAny
import Derived.Shelf.SlIter.Collect
import Derived.Maps.OwnSet
import Derived.WalkKit
import Derived.WalkLawsBesides
import Derived.WalkSpells
import Derived.LoopTactic
import Derived.WalkMore
import Derived.LoopN
import Derived.Laws.BitsAllLaws
import Derived.Laws.IdiomStrings
import Derived.BigQuiet
import Derived.Deep.QuietTactic
import Derived.Deep.DeepCutAuto
import Derived.Deep.RegionHeld3
import Derived.Deep.DrawnRows
import Derived.Lib.Hide
import Derived.Outline
import Derived.Deep.DeepMust
import Derived.Handy
namespace Go.Proofs.Ytoeaakadpillnaa
open Go.RowKit
set_option linter.unusedVariables false
set_option linter.unusedSimpArgs false

open Go.Maps
theorem keys_lit {T : TT} (hT : T.Rising) {ss ys : List Nat} (h : KeysOfT T ss) (hp : ys.Perm ss) (hs : ys.Pairwise (· ≤ ·)) : ys = T.map (·.tx) := T_keys_sorted hT h.1 h.2 hp hs

set_option maxHeartbeats 1000000 in
/-- Collect of an iterator. -/
theorem tx_collect (g : Nat) (lb : Array Value) (eg : ∀ args w, (callFunc g args).run Try.prog w = .ok (.enter g args) w) (S : List Nat → Prop) (N : Nat) (hN : N ≤ 1000000) (w : World) (hseq : SeqGives Fence.wide 1 Try.prog g lb encU S N w) :
    Calls Try.prog 87 #[.func (.func g) #[] lb] w fun e w' => ∃ (v : Value) (ss : List Nat), e = .returned v ∧ S ss ∧ w'.ownsRow w.heap.size 27 1 v ss.length (ss.map encU) ∧ Below w.heap.size w w' := by
  have A := Lib.hid (callsIn_wide.1 (seq_append 2 (by omega) g lb eg S N hN w hseq))
  clear hseq
  go_enter Try.func87, Try.ntmps87
  go_wp2_with fail
  refine A.out.mono ?_
  rintro e w1 ⟨v, ss, rfl, hS, ho, hb⟩
  have HS := Lib.hid hS
  have HO := Lib.hid ho
  have HB := Lib.hid hb
  clear hS ho hb
  go_wp2_with fail
  go_ret
  exact ⟨v, ss, rfl, HS.out, HO.out, HB.out⟩

set_option maxHeartbeats 1000000 in
/-- The keys, sorted. -/
theorem tx_sorted (w : World) {g m c tx number : Nat} {T : TT} (h : TtAt w g m c tx number T) :
    Calls Try.prog 69 #[.func (.func 88) #[] #[.pointer (some ⟨w.heap.size, 0, none⟩)]] (w.alloc (.cells #[.map (some m)] 119)) fun e w' => ∃ v, e = .returned v ∧ w'.ownsRow w.heap.size 27 1 v T.length (nums (T.map (·.tx))) ∧ Below w.heap.size w w' := by
  obtain ⟨W, hW⟩ : ∃ W, W = w.alloc (.cells #[.map (some m)] 119) := ⟨_, rfl⟩
  have hb0 : Below w.heap.size w W := by rw [hW]; exact (Below.refl _ _).alloc (Nat.le_refl _) _
  have hWs : W.heap.size = w.heap.size + 1 := by rw [hW]; simp
  have hcell : W.cell? ⟨w.heap.size, 0, none⟩ = some (.map (some m)) := by rw [hW, blk_cell (heap_alloc_new w _)]; rfl
  have hT := h.below hb0
  obtain ⟨D, ho, hD⟩ := hT.ex
  have hsm := h.small
  have C := Lib.hid (tx_collect _ _ (enters_of Try.func88 (by kernel_rfl) rfl) (KeysOfT T) T.length (by omega) W (keys_gives 1 (Nat.le_refl _) w.heap.size m D T hD W (by omega) hcell ho))
  rw [← hW]
  have HR := Lib.hid h.rising
  have HB0 := Lib.hid hb0
  clear hW hT ho hD h hcell hb0
  go_enter Try.func69, Try.ntmps69
  go_wp2_with fail
  refine C.out.mono ?_
  rintro e w1 ⟨v, ss, rfl, hS, ho, hb⟩
  have hlen : ss.length = T.length := by
    have h1 := keys_lit HR.out hS (List.mergeSort_perm ss (fun a b => decide (a ≤ b))) (by
      have := List.pairwise_mergeSort (le := fun a b : Nat => decide (a ≤ b)) (fun a b c h1 h2 => by simp at *; omega) (fun a b => by simp; omega) ss
      exact this.imp (fun h => by simpa using h))
    have := congrArg List.length h1
    simpa using this
  rw [hlen] at ho
  have SO := Lib.hid (sort_u64 w.heap.size T.length v ss w1 (by omega) (ownsRow_base_a ho (by omega)))
  have HS := Lib.hid hS
  have HB := Lib.hid (HB0.out.trans (hb.mono (by omega)))
  have HV := Lib.hid (fun k hk => (ho.lt (k := k) hk).1)
  clear hS ho hb
  go_wp2_with fail
  refine SO.out.mono ?_
  rintro e w2 ⟨ys, rfl, hp, hs, ho2, hk2⟩
  have hys := keys_lit HR.out HS.out hp hs
  rw [hys] at ho2
  have HO2 := Lib.hid ho2
  have HB2 := Lib.hid (OthersKept.below HB.out hk2 (fun k hk e => by have := HV.out k e; omega))
  clear hp hs ho2 hk2 hys
  go_wp2_with fail
  go_ret
  exact ⟨v, rfl, HO2.out, HB2.out⟩

/-- The transactions as cells. -/
def cellsT (T : TT) : List Value := T.flatMap TX.cells
theorem cellsT_len (T : TT) : (cellsT T).length = T.length * 6 := by
  induction T with
  | nil => rfl
  | cons x r ih => unfold cellsT at *; simp [ih]; omega
theorem cellsT_snoc (T : TT) (i : Nat) (h : i < T.length) : cellsT (T.take (i + 1)) = cellsT (T.take i) ++ (T[i]).cells := by
  unfold cellsT
  rw [List.take_succ_eq_append_getElem h, List.flatMap_append]
  simp
theorem cells_one (x : TX) : ∀ u ∈ x.cells, u.oneCell' = true := by
  intro u hu
  simp only [TX.cells, List.mem_cons, List.not_mem_nil, or_false] at hu
  rcases hu with rfl | rfl | rfl | rfl | rfl | rfl <;> rfl
theorem cells_new (w : World) (x : TX) (t : TypeId) : ∀ j u, x.cells[j]? = some u → (w.alloc (.cells x.cells.toArray t)).cell? ((⟨w.heap.size, 0, none⟩ : Addr).add j) = some u := by
  intro j u h
  have e : (⟨w.heap.size, 0, none⟩ : Addr).add j = ⟨w.heap.size, j, none⟩ := by unfold Addr.add; split <;> simp_all
  rw [e, blk_cell (heap_alloc_new w _)]
  simpa using h
set_option maxRecDepth 100000 in
theorem TtAt.look1 {w : World} {g m c tx number : Nat} {T : TT} (h : TtAt w g m c tx number T) {k : Nat} {x : TX} (he : getT T k = some x) :
    (Instr.lookup 119 (.map (some m)) (.int .u64 (k : Nat)) false).run Try.prog w = .ok x.val w := by
  have h64 := h.tx64 he
  obtain ⟨D, ho, hD⟩ := h.ex
  obtain ⟨v, ps, hrun, hv⟩ := ho.lookup tx_key Try.underlying119 (zero_tx w) (zd := .held (tx0 0).val) (zp := []) rfl (tx_keyOf h64)
  rw [hrun]
  rw [hD.val k x he] at hv
  injection hv with hv
  injection hv with hv _
  injection hv with hv
  rw [hv]

set_option maxHeartbeats 4000000 in
set_option maxRecDepth 100000 in
/-- All that go on, rising. -/
theorem tx_all (w : World) {g m c tx number : Nat} {T : TT} (h : TtAt w g m c tx number T) :
    Calls Try.prog 38 #[.pointer (some ⟨g, 0, none⟩)] w fun e w' => ∃ v, e = .returned v ∧ w'.ownsRow w.heap.size 68 6 v T.length (cellsT T) ∧ Below w.heap.size w w' := by
  have M := Lib.hid (tx_made w h)
  have c0 := h.c0
  have S := Lib.hid (tx_sorted w h)
  have KC := Lib.hid (keys_call (some m) w)
  have hsm := h.small
  have H := Lib.hid h
  clear h
  obtain ⟨i0, hi, hz0, hz1, hz2⟩ := info_parts (P := Try.prog) (e := 68) (z := (tx0 0).val) (size := 6) (bytes := 40) (by kernel_rfl)
  go_enter Try.func38, Try.ntmps38
  go_wp2_with fail
  refine M.out.mono ?_
  rintro e w1 ⟨rfl, rfl⟩
  go_wp2_with fail
  refine KC.out.mono ?_
  rintro e w2 ⟨rfl, rfl⟩
  go_wp2_with fail
  refine S.out.mono ?_
  rintro e w3 ⟨v, rfl, ho, hb⟩
  have HO := Lib.hid ho
  have HB := Lib.hid hb
  obtain ⟨b, cp, rfl, hcp, hcm, hbb⟩ := own_form ho
  have HV := Lib.hid (fun k hk => (ho.lt (k := k) hk).2)
  have HT3 := Lib.hid (H.out.below hb)
  have HCELL : Hid (∀ (i : Nat) (hi : i < T.length) gk, b = some ⟨gk, 0, none⟩ → w3.cell? ⟨gk, i, none⟩ = some (.int .u64 ((T[i]).tx : Nat)) ∧ gk < w3.heap.size) := by
    show ∀ (i : Nat), _
    intro i hi gk e
    subst e
    have := own_cell ho i (.int .u64 ((T[i]).tx : Nat)) (by simp [nums, hi])
    exact ⟨this, cell_lt this⟩
  have HBB := Lib.hid hbb
  clear ho hb hbb c0
  go_wp2_with fail
  go_loopw [2, 15] (fun s2 s15 wr => ∃ i : Nat, i ≤ T.length ∧ s15 = .int .i64 i ∧ wr.ownsRow w3.heap.size 68 6 s2 i (cellsT (T.take i)) ∧ Below w3.heap.size w3 wr) (fun _ s15 _ => T.length - (intOf s15).toNat)
  case atStart => exact ⟨0, Nat.zero_le _, rfl, World.ownsRow_nil _ _ _ _, Below.refl _ _⟩
  case round =>
    obtain ⟨i, hil, rfl, hrow, hbw⟩ := hrel
    have HRow := Lib.hid hrow
    have HBw := Lib.hid hbw
    by_cases hlt : i < T.length
    · obtain ⟨gk, rfl, hgk⟩ := HBB.out (by omega)
      obtain ⟨hc, hgl⟩ := HCELL.out i hlt gk rfl
      have t0 := (hbw.cell (p := ⟨gk, i, none⟩) hgl).trans hc
      have hT := HT3.out.below hbw
      have c0 := hT.c0
      have hget : getT T (T[i]).tx = some T[i] := (T_get_mem hT.rising).2 ⟨List.getElem_mem _, rfl⟩
      have lk := hT.look1 hget
      have hsn := cellsT_snoc T i hlt
      obtain ⟨x, hx⟩ : ∃ x, x = T[i] := ⟨_, rfl⟩
      rw [← hx] at t0 lk hsn
      have HSN := Lib.hid hsn
      simp only [TX.val] at lk
      have q0 : (0 : Int) ≤ (i : Int) := by omega
      have q1 : (i : Int) < (T.length : Int) := by omega
      have hsz := hbw.size
      clear hc hT hget hx hsn hrow hbw
      go_wp2_with (at_builtin; refine wpList_append_any _ rfl _ _ 61 rfl w3.heap.size 68 i0 (tx0 0).val 6 40 Try.underlying61 hi hz0 hz1 hz2 rfl (by decide) _ _ _ (by rfl) (HRow.out.alloc _) (.slice (some ⟨wr.heap.size, 0, none⟩) 1 1) 1 x.cells (by rfl) (.inr ⟨_, 1, rfl, rfl, cells_new wr x _⟩) (cells_one x) (by unfold maxLen; omega) (by omega) (by simp; omega) ?_; intro v5 w5 ho5 hg5)
      have HB5 := Lib.hid (below_own (HBw.out.alloc hsz (.cells x.cells.toArray 68)) (HRow.out.alloc _) (Nat.le_refl _) hg5)
      rw [← HSN.out] at ho5
      have HO5 := Lib.hid ho5
      clear ho5 hg5
      go_roundw
      case rel => exact ⟨i + 1, by omega, by go_num, HO5.out, HB5.out⟩
      case measure => simp [intOf]; omega
    · have hie : i = T.length := by omega
      subst hie
      clear hrow hbw
      go_wp2_with fail
      go_ret
      refine ⟨_, rfl, ?_, HB.out.trans (HBw.out.mono HB.out.size)⟩
      have := HRow.out
      rw [List.take_length] at this
      exact ownsRow_base_a this HB.out.size

end Go.Proofs.Ytoeaakadpillnaa
