/- chapter 23: the document's table. -/
import Derived.Test.YtoeaakadpillnaaRows
import Derived.Test.YtoeaakadpillnaaTxnAll
import Derived.Test.YtoeaakadpillnaaTxnRaiseLaw
import Derived.Test.YtoeaakadpillnaaAppAny
import Derived.Test.YtoeaakadpillnaaTxnAdd
import Derived.Test.YtoeaakadpillnaaTxnWalks
import Derived.Shelf.SlIter.Collect
import Derived.Deep.LoopGhost
import Derived.Deep.CutBlock
import Derived.Laws.OwnMore
import Derived.WalkKit
import Derived.WalkLawsBesides
import Derived.WalkSpells
import Derived.LoopTactic
import Derived.WalkMore
import Derived.LoopN
import Derived.Laws.BitsAllLaws
import Derived.Laws.IdiomStrings
import Derived.BigQuiet
import Derived.Deep.QuietTactic
import Derived.Deep.DeepCutAuto
import Derived.Deep.RegionHeld3
import Derived.Deep.DrawnRows
import Derived.Lib.Hide
import Derived.Outline
import Derived.Deep.DeepMust
import Derived.Handy
namespace Go.Proofs.Ytoeaakadpillnaa
open Go.RowKit
set_option linter.unusedVariables false
set_option linter.unusedSimpArgs false

open Go.Maps
theorem reads_frontN {w : World} {base n cp size : Nat} {e : TypeId} {b : Option Addr} {xs : List Value} (h : w.ownsRow base e size (.slice b n cp) n xs) (k : Nat) (hk : k ≤ n) : Reads w (.slice b k cp) k size (xs.take (k * size)) := by
  rcases h.2 with ⟨he, rfl⟩ | ⟨g, cap, cur, he, hb, hg, h1, h2, _⟩
  · injection he with e1 e2 e3
    subst e1 e3
    obtain rfl : k = 0 := by omega
    exact .inl ⟨rfl, rfl, by simp⟩
  · injection he with e1 e2 e3
    subst e1 e3
    exact reads_take h k cp hk
theorem reads_backN {w : World} {base n cp size : Nat} {e : TypeId} {b : Option Addr} {xs : List Value} (h : w.ownsRow base e size (.slice b n cp) n xs) (k : Nat) (hk : k ≤ n) : Reads w (.slice (if cp = k then b else Option.map (fun x => x.add (k * size)) b) (n - k) (cp - k)) (n - k) size (xs.drop (k * size)) := by
  rcases h.2 with ⟨he, rfl⟩ | ⟨g, cap, cur, he, hb, hg, h1, h2, _⟩
  · injection he with e1 e2 e3
    subst e1 e3
    obtain rfl : k = 0 := by omega
    have : xs = [] := by have := h.1; exact List.length_eq_zero_iff.1 (by simpa using this)
    exact .inl ⟨by simp, rfl, by simp [this]⟩
  · injection he with e1 e2 e3
    subst e1 e3
    have := reads_drop h k (cp - k) hk (by omega)
    split
    · rename_i hc
      rw [if_pos hc] at this
      exact this
    · rename_i hc
      rw [if_neg hc] at this
      rw [Option.map_some, Addr.add_lit, Nat.zero_add]
      exact this
theorem cellsT_one (T : TT) : ∀ u ∈ cellsT T, u.oneCell' = true := by
  intro u hu
  obtain ⟨x, _, hx⟩ := List.mem_flatMap.1 hu
  exact cells_one x u hx
theorem cellsT_app (A B : TT) : cellsT (A ++ B) = cellsT A ++ cellsT B := by unfold cellsT; rw [List.flatMap_append]
theorem cellsT_cons (x : TX) (B : TT) : cellsT (x :: B) = x.cells ++ cellsT B := rfl
theorem cellsT_take (T : TT) (k : Nat) : (cellsT T).take (k * 6) = cellsT (T.take k) := by
  rcases Nat.le_total k T.length with h | h
  · have e : cellsT T = cellsT (T.take k) ++ cellsT (T.drop k) := by rw [← cellsT_app, List.take_append_drop]
    rw [e, List.take_left' (by rw [cellsT_len, List.length_take, Nat.min_eq_left h])]
  · rw [List.take_of_length_le h, List.take_of_length_le (by rw [cellsT_len]; omega)]
theorem cellsT_drop (T : TT) (k : Nat) : (cellsT T).drop (k * 6) = cellsT (T.drop k) := by
  rcases Nat.le_total k T.length with h | h
  · have e : cellsT T = cellsT (T.take k) ++ cellsT (T.drop k) := by rw [← cellsT_app, List.take_append_drop]
    rw [e, List.drop_left' (by rw [cellsT_len, List.length_take, Nat.min_eq_left h])]
  · rw [List.drop_of_length_le h, List.drop_of_length_le (by rw [cellsT_len]; omega)]
    rfl
/-- The document's table in memory. -/
structure RtAt (w : World) (g : Nat) (v : Value) (tx number : Nat) (T : TT) : Prop where
  own : w.heap[g]? = some (.cells #[v, .int .u64 (tx : Nat), .int .u64 (number : Nat)] 101 (0, 0))
  row : w.ownsRow 0 68 6 v T.length (cellsT T)
  far : ∀ k, v.ownBlock = some k → k ≠ g
  rising : T.Rising
  small : T.length ≤ 32
section
variable {w w' : World} {g tx number : Nat} {v : Value} {T : TT}
theorem RtAt.c0 (h : RtAt w g v tx number T) : w.cell? ⟨g, 0, none⟩ = some v := by rw [blk_cell h.own]; rfl
theorem RtAt.c1 (h : RtAt w g v tx number T) : w.cell? ⟨g, 1, none⟩ = some (.int .u64 (tx : Nat)) := by rw [blk_cell h.own]; rfl
theorem RtAt.c2 (h : RtAt w g v tx number T) : w.cell? ⟨g, 2, none⟩ = some (.int .u64 (number : Nat)) := by rw [blk_cell h.own]; rfl
theorem RtAt.kept {p : Nat → Prop} (h : RtAt w g v tx number T) (hk : OthersKept w w' p) (h1 : ¬ p g) (h2 : ∀ k, v.ownBlock = some k → ¬ p k) : RtAt w' g v tx number T :=
  ⟨hk.heap h.own h1, hk.owns h.row h2, h.far, h.rising, h.small⟩
theorem RtAt.below (h : RtAt w g v tx number T) (hb : Below w.heap.size w w') : RtAt w' g v tx number T := h.kept (p := fun _ => False) (OthersKept.of_below hb) id (fun _ _ => id)
theorem RtAt.form (h : RtAt w g v tx number T) : ∃ b cp, v = .slice b T.length cp ∧ T.length ≤ cp ∧ cp ≤ maxLen ∧ (0 < T.length → ∃ gv, b = some ⟨gv, 0, none⟩) ∧ ∀ (i : Nat) (hi : i < T.length) gv, b = some ⟨gv, 0, none⟩ → ∀ j u, j < 6 → (T[i]).cells[j]? = some u → w.cell? ⟨gv, i * 6 + j, none⟩ = some u := by
  obtain ⟨b, cp, rfl, h1, h2, h3⟩ := own_form6 h.row
  refine ⟨b, cp, rfl, h1, h2, h3, fun i hi gv he j u hj hu => ?_⟩
  subst he
  exact own_cell6 h.row _ u (by rw [cellsT_get T i j hi hj]; exact hu)
theorem RtAt.set1 (h : RtAt w g v tx number T) (tx' : Nat) : RtAt (w.setCell ⟨g, 1, none⟩ (.int .u64 (tx' : Nat))) g v tx' number T := by
  have hk := OthersKept.of_grown (p := fun k => k = g) (g := g) (grown_set (i := 1) (u := .int .u64 (tx' : Nat)) (grown_refl w g)) rfl
  exact ⟨by simpa using blk_set h.own 1 (.int .u64 (tx' : Nat)), hk.owns h.row (fun k hv e => h.far k hv e), h.far, h.rising, h.small⟩
theorem RtAt.set2 (h : RtAt w g v tx number T) (n' : Nat) : RtAt (w.setCell ⟨g, 2, none⟩ (.int .u64 (n' : Nat))) g v tx n' T := by
  have hk := OthersKept.of_grown (p := fun k => k = g) (g := g) (grown_set (i := 2) (u := .int .u64 (n' : Nat)) (grown_refl w g)) rfl
  exact ⟨by simpa using blk_set h.own 2 (.int .u64 (n' : Nat)), hk.owns h.row (fun k hv e => h.far k hv e), h.far, h.rising, h.small⟩
theorem RtAt.set0 {base : Nat} {v' : Value} {T' : TT} (h : RtAt w g v tx number T) (ho : w.ownsRow base 68 6 v' T'.length (cellsT T')) (hl : g < base) (hr : T'.Rising) (hs : T'.length ≤ 32) : RtAt (w.setCell ⟨g, 0, none⟩ v') g v' tx number T' := by
  have hf : ∀ k, v'.ownBlock = some k → k ≠ g := fun k hk => by have := (ho.lt k hk).1; omega
  have hk := OthersKept.of_grown (p := fun k => k = g) (g := g) (grown_set (i := 0) (u := v') (grown_refl w g)) rfl
  exact ⟨by simpa using blk_set h.own 0 v', ownsRow_base_a (hk.owns ho (fun k hv e => hf k hv e)) (Nat.zero_le _), hf, hr, hs⟩
end
/-- Where a transaction stands; -1: nowhere. -/
def idxT (T : TT) (k : Nat) : Int := if (getT T k).isSome then ((whereT T k : Nat) : Int) else -1
theorem where_step {T : TT} {k i : Nat} (hi : i < T.length) (hle : i ≤ whereT T k) : i < whereT T k ↔ T[i].tx ≠ k := by
  unfold whereT at *
  constructor
  · intro h
    have := List.not_of_lt_findIdx h
    simpa using this
  · intro h
    rcases Nat.lt_or_ge i (T.findIdx fun x => x.tx == k) with h2 | h2
    · exact h2
    · exfalso
      have e : T.findIdx (fun x => x.tx == k) = i := by omega
      have := List.findIdx_getElem (w := by rw [e]; exact hi)
      simp only [e] at this
      exact h (by simpa using this)
theorem where_le (T : TT) (k : Nat) : whereT T k ≤ T.length := List.findIdx_le_length
theorem isSome_where (T : TT) (k : Nat) : (getT T k).isSome = decide (whereT T k < T.length) := by
  cases h : getT T k with
  | none => rw [T_where_none h]; simp
  | some x =>
    have hx := List.find?_some h
    have hm := List.mem_of_find?_eq_some h
    have := List.findIdx_lt_length_of_exists (xs := T) (p := fun x => x.tx == k) ⟨x, hm, hx⟩
    unfold whereT
    simp [this]

set_option maxHeartbeats 2000000 in
set_option maxRecDepth 100000 in
theorem rt_at (g : Nat) (v : Value) (tx number : Nat) (T : TT) (k : Nat) (w : World) (h : RtAt w g v tx number T) :
    Calls Try.prog 81 #[.pointer (some ⟨g, 0, none⟩), .int .u64 (k : Nat)] w fun e w' => e = .returned (.int .i64 (idxT T k)) ∧ w' = w := by
  have c0 := h.c0
  have hsm := h.small
  obtain ⟨b, cp, rfl, hcp, hcm, hbb, hcell⟩ := h.form
  have hWL := where_le T k
  have HX : Hid (idxT T k = if whereT T k < T.length then ((whereT T k : Nat) : Int) else -1) := by
    show _ = _
    unfold idxT
    rw [isSome_where]
    simp
  have HC := Lib.hid hcell
  have HB := Lib.hid hbb
  clear hcell hbb h
  generalize hI : idxT T k = I at *
  clear hI
  go_enter Try.func81, Try.ntmps81
  go_wp2_with fail
  go_loopw [5] (fun s5 wr => ∃ i : Nat, i ≤ whereT T k ∧ s5 = .int .i64 i ∧ wr = w) (fun i _ => T.length - (intOf i).toNat)
  case atStart => exact ⟨0, Nat.zero_le _, rfl, rfl⟩
  case round =>
    obtain ⟨i, hi, rfl, rfl⟩ := hrel
    by_cases hc : i < T.length
    · obtain ⟨gk, rfl⟩ := HB.out (by omega)
      have t0 := HC.out i hc gk rfl 0 _ (by omega) rfl
      have q0 : (0 : Int) ≤ (i : Int) := by omega
      have q1 : (i : Int) < (T.length : Int) := by omega
      have hst := where_step hc hi
      rw [Nat.add_zero] at t0
      by_cases hne : T[i].tx ≠ k
      · have hi2 := hst.2 hne
        have e1 : (((T[i]).tx : Int) == (k : Int)) = false := by simp; omega
        have e2 : ¬ ((T[i]).tx : Int) = (k : Int) := by omega
        clear hst hne
        generalize (T[i]).tx = kk at *
        go_wp2_with fail
        go_roundw
        case rel => exact ⟨i + 1, by omega, by go_num, trivial⟩
        case measure => simp [intOf]; omega
      · have hwi : whereT T k = i := by rcases Nat.lt_or_ge i (whereT T k) with h | h; exact absurd (hst.1 h) hne; omega
        have hek : (T[i]).tx = k := by omega
        have HXI : Hid (I = (i : Nat)) := by show _ = _; rw [HX.out, hwi, if_pos hc]
        rw [hek] at t0
        clear hst hne hek hwi
        go_wp2_with fail
        go_ret
        exact ⟨ret_int HXI.out.symm, rfl⟩
    · have HXI : Hid (I = -1) := by show _ = _; rw [HX.out, if_neg (by omega)]
      have hil : i = T.length := by omega
      subst hil
      go_wp2_with fail
      go_ret
      exact ⟨ret_int HXI.out.symm, rfl⟩

open Go.Maps
set_option maxHeartbeats 4000000 in
set_option maxRecDepth 100000 in
/-- A transaction more, in its place. -/
theorem rt_put (g : Nat) (v : Value) (tx number : Nat) (T : TT) (x : TX) (w : World) (h : RtAt w g v tx number T) (hx : getT T x.tx = none) (hn : T.length < 32) :
    Calls Try.prog 89 #[.pointer (some ⟨g, 0, none⟩), x.val] w fun e w' => e = .returned (.tuple #[]) ∧ ∃ v', RtAt w' g v' tx number (insT T x) ∧ OthersKept w w' (fun k => k = g) ∧ ∀ k, v'.ownBlock = some k → w.heap.size ≤ k := by
  have hRI := Lib.hid (T_rising_ins h.rising hx)
  have hLI := Lib.hid (T_length_ins T x)
  have HI : Hid (insT T x = T.take (placeT T x.tx) ++ x :: T.drop (placeT T x.tx)) := rfl
  have hPL := T_place_le T x.tx
  have HP := Lib.hid fun i hi => T_place_step (k := x.tx) (i := i) h.rising hi
  clear hx
  obtain ⟨T', hT'⟩ : ∃ T', T' = insT T x := ⟨_, rfl⟩
  rw [← hT'] at hRI hLI HI ⊢
  clear hT'
  obtain ⟨xt, xf, xl, xn, xp, xs⟩ := x
  obtain ⟨W1, hW1⟩ : ∃ W, W = w.alloc (.cells #[.int .u64 (xt : Nat), .int .u64 (xf : Nat), .int .u64 (xl : Nat), .int .u64 (xn : Nat), .int .u32 (xp : Nat), .int .u16 (xs : Nat)] 68) := ⟨_, rfl⟩
  have hB1 : Below w.heap.size w W1 := by rw [hW1]; exact (Below.refl _ _).alloc (Nat.le_refl _) _
  have P1 := Lib.hid (show W1.heap[w.heap.size]? = some (.cells #[.int .u64 (xt : Nat), .int .u64 (xf : Nat), .int .u64 (xl : Nat), .int .u64 (xn : Nat), .int .u32 (xp : Nat), .int .u16 (xs : Nat)] 68 (0, 0)) by rw [hW1]; exact heap_alloc_new w _)
  have H1 := Lib.hid (h.below hB1)
  have HB1 := Lib.hid hB1
  have hgl := blk_lt h.own
  obtain ⟨b, cp, rfl, hcp, hcm, hbb, hcell⟩ := (h.below hB1).form
  have c0 := (h.below hB1).c0
  have HC := Lib.hid hcell
  have HB := Lib.hid hbb
  clear h hB1 hbb hcell
  simp only at HP HI hPL
  generalize placeT T xt = i at *
  obtain ⟨i0, hi, hz0, hz1, hz2⟩ := info_parts (P := Try.prog) (e := 68) (z := (tx0 0).val) (size := 6) (bytes := 40) (by kernel_rfl)
  unfold maxLen at hcm
  go_enter Try.func89, Try.ntmps89
  go_upto_region 1 with fail
  simp only [TX.val]
  rw [← hW1]
  clear hW1
  go_wp2_with fail
  go_loopw [4] (fun s4 wr => ∃ j : Nat, j ≤ i ∧ s4 = .int .i64 j ∧ Below W1.heap.size W1 wr) (fun j _ => T.length - (intOf j).toNat)
  case atStart => exact ⟨0, Nat.zero_le _, rfl, Below.refl _ _⟩
  case round =>
    obtain ⟨j, hj, rfl, hb⟩ := hrel
    have c0' := (H1.out.below hb).c0
    have px : wr.cell? ⟨w.heap.size, 0, none⟩ = some (.int .u64 (xt : Nat)) := by rw [blk_cell ((hb.block _ (blk_lt P1.out)).trans P1.out)]; rfl
    have e0 := ext_cell c0' (cell_lt c0')
    have ex := ext_cell px (cell_lt px)
    have HBj := Lib.hid hb
    clear hb
    by_cases hlt : j < i
    · have hjl : j < T.length := by omega
      obtain ⟨gk, rfl⟩ := HB.out (by omega)
      have t0 := keep_cell HBj.out (HC.out j hjl gk rfl 0 _ (by omega) rfl)
      rw [Nat.add_zero] at t0
      have et := ext_cell t0 (cell_lt t0)
      have hst := (HP.out j hjl).1 hlt
      have q0 : (0 : Int) ≤ (j : Int) := by omega
      have q1 : (j : Int) < (T.length : Int) := by omega
      have q2 : decide (j < T.length) = true := by simpa using hjl
      have q3 : decide ((T[j]).tx < xt) = true := by simpa using hst
      have q4 : ((T[j]).tx : Int) < (xt : Int) := by omega
      generalize (T[j]).tx = kk at *
      go_upto_region 2 with fail
      refine wp_region_ext wr.heap.size (by kernel_rfl) (by kernel_rfl) ?_
      repeat (go_big_quiet_step (fail))
      refine wpQuiet_nil ?_
      rintro _ ⟨X, rfl⟩
      have HX := Lib.hid (below_then HBj.out X.below)
      clear e0 ex et
      go_wp2_with fail
      go_roundw
      case rel => exact ⟨j + 1, by omega, by go_num, HX.out⟩
      case measure => simp [intOf]; omega
    · obtain rfl : j = i := by omega
      go_upto_region 2 with fail
      go_cut [25] (fun s25 w' => s25 = .bool false ∧ Below W1.heap.size W1 w')
      case first =>
        by_cases hjl : j < T.length
        · obtain ⟨gk, rfl⟩ := HB.out (by omega)
          have t0 := keep_cell HBj.out (HC.out j hjl gk rfl 0 _ (by omega) rfl)
          rw [Nat.add_zero] at t0
          have et := ext_cell t0 (cell_lt t0)
          have hst : ¬ (T[j]).tx < xt := fun h => hlt ((HP.out j hjl).2 h)
          have q0 : (0 : Int) ≤ (j : Int) := by omega
          have q1 : (j : Int) < (T.length : Int) := by omega
          have q2 : decide (j < T.length) = true := by simpa using hjl
          have q3 : decide ((T[j]).tx < xt) = false := by simp; omega
          generalize (T[j]).tx = kk at *
          refine wp_region_ext wr.heap.size (by kernel_rfl) (by kernel_rfl) ?_
          repeat (go_big_quiet_step (fail))
          refine wpQuiet_nil ?_
          rintro _ ⟨X, rfl⟩
          have HX := Lib.hid (below_then HBj.out X.below)
          clear e0 ex et
          go_wp2_with fail
          go_meet
          exact ⟨rfl, HX.out⟩
        · have q2 : decide (j < T.length) = false := by simpa using hjl
          have q1 : ¬ (j : Int) < (T.length : Int) := by omega
          refine wp_region_ext wr.heap.size (by kernel_rfl) (by kernel_rfl) ?_
          repeat (go_big_quiet_step (fail))
          refine wpQuiet_nil ?_
          rintro _ ⟨X, rfl⟩
          have HX := Lib.hid (below_then HBj.out X.below)
          clear e0 ex
          go_wp2_with fail
          go_meet
          exact ⟨rfl, HX.out⟩
      case rest =>
        obtain ⟨rfl, hbc⟩ := hcut
        clear e0 ex c0 c0' px HBj
        have R1 := Lib.hid (H1.out.below hbc)
        have HBc := Lib.hid (below_then HB1.out hbc)
        have PX := Lib.hid ((hbc.block _ (blk_lt P1.out)).trans P1.out)
        have c0 := R1.out.c0
        have hwc : w.heap.size ≤ wc.heap.size := HBc.out.size
        have FK := Lib.hid (reads_frontN R1.out.row j (by omega))
        have GK := Lib.hid (reads_backN R1.out.row j (by omega))
        have q0 : (0 : Int) ≤ (j : Int) := by omega
        have q1 : (j : Int) ≤ (T.length : Int) := by omega
        have q2 : (j : Int) ≤ (cp : Int) := by omega
        clear hbc
        go_wp2_with (at_builtin; refine wpList_append_any _ rfl (.tmp 28) (.tmp 34) 61 rfl wc.heap.size 68 i0 (tx0 0).val 6 40 Try.underlying61 hi hz0 hz1 hz2 rfl (by decide) (.slice none 0 0) (0) ([]) (by rfl) (World.ownsRow_nil _ _ _ _) (.slice b j cp) (j) ((cellsT T).take (j * 6)) (by rfl) (FK.out) (fun u hu => cellsT_one T u (List.mem_of_mem_take hu)) (by unfold maxLen; omega) (by omega) (Nat.le_refl _) ?_; intro v8 w8 ho hg; refine Aside.out ?_)
        have HO8 := Lib.hid ho
        have HB8 := Lib.hid (below_own (Below.refl _ _) (World.ownsRow_nil wc wc.heap.size 68 6) (Nat.le_refl _) hg)
        obtain ⟨⟨x0, x1, x2, x3, x4, x5⟩, _⟩ := cells6 ((HB8.out.block _ (blk_lt PX.out)).trans PX.out)
        clear ho hg
        unfold Aside
        go_wp2_with (at_builtin; refine wpList_append_any _ rfl (.tmp 36) (.tmp 38) 61 rfl wc.heap.size 68 i0 (tx0 0).val 6 40 Try.underlying61 hi hz0 hz1 hz2 rfl (by decide) v8 (0 + j) ([] ++ (cellsT T).take (j * 6)) (by rfl) (HO8.out.alloc _) (.slice (some ⟨w8.heap.size, 0, none⟩) 1 1) (1) ((⟨xt, xf, xl, xn, xp, xs⟩ : TX).cells) (by rfl) (.inr ⟨_, 1, rfl, rfl, cells_new w8 (⟨xt, xf, xl, xn, xp, xs⟩ : TX) _⟩) (cells_one _) (by unfold maxLen; omega) (by omega) (by have := HB8.out.size; simp; omega) ?_; intro v10 w10 ho hg; refine Aside.out ?_)
        have HO10 := Lib.hid ho
        have HB10 := Lib.hid (below_own (HB8.out.alloc HB8.out.size (.cells #[.int .u64 (xt : Nat), .int .u64 (xf : Nat), .int .u64 (xl : Nat), .int .u64 (xn : Nat), .int .u32 (xp : Nat), .int .u16 (xs : Nat)] 68)) (HO8.out.alloc _) (Nat.le_refl _) hg)
        clear ho hg x0 x1 x2 x3 x4 x5
        have c0 := (R1.out.below HB10.out).c0
        unfold Aside
        go_wp2_with (at_builtin; refine wpList_append_any _ rfl (.tmp 41) (.tmp 47) 61 rfl wc.heap.size 68 i0 (tx0 0).val 6 40 Try.underlying61 hi hz0 hz1 hz2 rfl (by decide) v10 (0 + j + 1) ([] ++ (cellsT T).take (j * 6) ++ (⟨xt, xf, xl, xn, xp, xs⟩ : TX).cells) (by rfl) (HO10.out) (.slice (if cp = j then b else Option.map (fun x => x.add (j * 6)) b) (T.length - j) (cp - j)) (T.length - j) ((cellsT T).drop (j * 6)) (by rfl) (GK.out.below HB10.out) (fun u hu => cellsT_one T u (List.mem_of_mem_drop hu)) (by unfold maxLen; omega) (by omega) (HB10.out.size) ?_; intro v11 w11 ho hg; refine Aside.out ?_)
        all_goals
          have HB11 := Lib.hid (below_own HB10.out HO10.out (Nat.le_refl _) hg)
          have hR : [] ++ (cellsT T).take (j * 6) ++ (⟨xt, xf, xl, xn, xp, xs⟩ : TX).cells ++ (cellsT T).drop (j * 6) = cellsT T' := by rw [HI.out, cellsT_app, cellsT_cons, cellsT_take, cellsT_drop]; simp
          have hN : 0 + j + 1 + (T.length - j) = T'.length := by rw [hLI.out]; omega
          rw [hR, hN] at ho
          have HA11 := Lib.hid (R1.out.below HB11.out)
          have f11 := blk_frozen HA11.out.own 0
          have c0 := HA11.out.c0
          have HRn := Lib.hid (HA11.out.set0 ho (by omega) hRI.out (by rw [hLI.out]; omega))
          have HFK : Hid (∀ x, v11.ownBlock = some x → w.heap.size ≤ x) := by
            show ∀ x, _
            intro x hx
            have := (ho.lt x hx).1
            omega
          obtain ⟨b11, cp11, rfl, _, _, _⟩ := own_form6 ho
          have HKn := Lib.hid ((OthersKept.of_below (p := fun x => x = g) (below_then HBc.out HB11.out)).same (OthersKept.of_grown (p := fun x => x = g) (g := g) (grown_set (i := 0) (u := .slice b11 T'.length cp11) (grown_refl w11 g)) rfl))
          clear ho hg hR hN FK GK HO8 HB8 HO10 HB10
          generalize T'.length = NT at *
          unfold Aside
          go_wp2_with fail
          go_end0
          exact ⟨rfl, _, HRn.out, HKn.out, HFK.out⟩

open Go.Maps
/-- What a call of the document's table leaves. -/
def RtNow (w w' : World) (g : Nat) (v : Value) (tx number : Nat) (T : TT) : Prop :=
  ∃ v', RtAt w' g v' tx number T ∧ OthersKept w w' (fun k => k = g ∨ v.ownBlock = some k) ∧ ∀ k, v'.ownBlock = some k → v.ownBlock = some k ∨ w.heap.size ≤ k
theorem RtNow.stay {w w' : World} {g : Nat} {v : Value} {tx number : Nat} {T : TT} (h : RtAt w g v tx number T) (hb : Below w.heap.size w w') : RtNow w w' g v tx number T :=
  ⟨v, h.below hb, OthersKept.of_below hb, fun _ h => .inl h⟩
theorem kept_or {w w' : World} {g : Nat} {v : Value} (h : OthersKept w w' (fun k => k = g)) : OthersKept w w' (fun k => k = g ∨ v.ownBlock = some k) := ⟨h.os, h.tape, h.output, h.size, fun k hk hp => h.block k hk (fun e => hp (.inl e))⟩

theorem rt_raise (g : Nat) (v : Value) (tx number : Nat) (T : TT) (a b : Nat) (w : World) (h : RtAt w g v tx number T) (ha : a ≤ 4611686018427387904) (hb : b ≤ 4611686018427387904) :
    Calls Try.prog 80 #[.pointer (some ⟨g, 0, none⟩), .int .u64 (a : Nat), .int .u64 (b : Nat)] w fun e w' => e = .returned (.int .i64 0) ∧ RtNow w w' g v (max tx a) (max number b) T := by
  have c1 := h.c1
  have f1 := blk_frozen h.own 1
  obtain ⟨M1, hM1⟩ : ∃ M, M = max tx a := ⟨_, rfl⟩
  obtain ⟨M2, hM2⟩ : ∃ M, M = max number b := ⟨_, rfl⟩
  have hx1 : ∀ ats ty W, (Builtin.max_ ats ty #[.int .u64 (tx : Nat), .int .u64 (a : Nat)]).run Try.prog W = .ok (.int .u64 (M1 : Nat)) W := fun ats ty W => by
    rw [hM1]; exact run_max_u64 (P := Try.prog) tx a ats ty W
  have hx2 : ∀ ats ty W, (Builtin.max_ ats ty #[.int .u64 (number : Nat), .int .u64 (b : Nat)]).run Try.prog W = .ok (.int .u64 (M2 : Nat)) W := fun ats ty W => by
    rw [hM2]; exact run_max_u64 (P := Try.prog) number b ats ty W
  have e1 : ¬ 4611686018427387904 < (a : Int) := by omega
  have e2 : ¬ 4611686018427387904 < (b : Int) := by omega
  have h1 := h.set1 M1
  have c2 := h1.c2
  have f2 := blk_frozen h1.own 2
  have H2 := Lib.hid (h1.set2 M2)
  have HK := Lib.hid (OthersKept.of_grown (p := fun k => k = g) (g := g) (grown_set (i := 2) (u := .int .u64 (M2 : Nat)) (grown_set (i := 1) (u := .int .u64 (M1 : Nat)) (grown_refl w g))) rfl)
  rw [← hM1, ← hM2]
  clear h h1 hM1 hM2
  go_enter Try.func80, Try.ntmps80
  go_wp2_with fail
  go_ret
  exact ⟨rfl, v, H2.out, kept_or HK.out, fun _ h => .inl h⟩
theorem rt_raise_no (g : Nat) (a b : Nat) (w : World) (hf : 4611686018427387904 < a ∨ 4611686018427387904 < b) :
    Calls Try.prog 80 #[.pointer (some ⟨g, 0, none⟩), .int .u64 (a : Nat), .int .u64 (b : Nat)] w fun e w' => e = .returned (.int .i64 2) ∧ w' = w := by
  by_cases h1 : 4611686018427387904 < a
  · have e1 : 4611686018427387904 < (a : Int) := by omega
    clear hf
    go_enter Try.func80, Try.ntmps80
    go_wp2_with fail
    go_ret
    exact ⟨rfl, rfl⟩
  · have e1 : ¬ 4611686018427387904 < (a : Int) := by omega
    have e2 : 4611686018427387904 < (b : Int) := by omega
    clear hf
    go_enter Try.func80, Try.ntmps80
    go_wp2_with fail
    go_ret
    exact ⟨rfl, rfl⟩

set_option maxHeartbeats 4000000 in
set_option maxRecDepth 100000 in
theorem rt_begin (g : Nat) (v : Value) (tx number : Nat) (T : TT) (w : World) (h : RtAt w g v tx number T) (hu : Under T tx) (hn : T.length < 32) (hl : tx ≤ 4611686018427387904) :
    Calls Try.prog 75 #[.pointer (some ⟨g, 0, none⟩)] w fun e w' => e = .returned (.tuple #[.int .u64 (tx : Nat), .int .i64 0]) ∧ RtNow w w' g v (tx + 1) number (insT T (tx0 tx)) := by
  have PU : Hid (Calls Try.prog 89 #[.pointer (some ⟨g, 0, none⟩), .agg #[.int .u64 (tx : Nat), .int .u64 0, .int .u64 0, .int .u64 0, .int .u32 0, .int .u16 0]] w fun e w' => e = .returned (.tuple #[]) ∧ ∃ v', RtAt w' g v' tx number (insT T (tx0 tx)) ∧ OthersKept w w' (fun k => k = g) ∧ ∀ k, v'.ownBlock = some k → w.heap.size ≤ k) := rt_put g v tx number T (tx0 tx) w h (T_under_none hu (Nat.le_refl _)) hn
  have c0 := h.c0
  have c1 := h.c1
  have e1 : ¬ (32 : Int) ≤ (T.length : Int) := by omega
  have e1' : decide (32 ≤ T.length) = false := by simp; omega
  have e2 : ¬ 4611686018427387904 < (tx : Int) := by omega
  obtain ⟨b, cp, rfl, hcp, hcm, _, _⟩ := h.form
  have hw : IntKind.u64.wrap ((tx : Int) + 1) = ((tx + 1 : Nat) : Int) := by rw [IntKind.wrap_u64]; omega
  generalize hN : tx + 1 = N at *
  clear h hN
  go_enter Try.func75, Try.ntmps75
  go_wp2_with fail
  refine PU.out.mono ?_
  rintro e w1 ⟨rfl, v', h1, hk1, hf1⟩
  have c1 := h1.c1
  have f1 := blk_frozen h1.own 1
  have H2 := Lib.hid (h1.set1 N)
  have HF := Lib.hid hf1
  have HK := Lib.hid (hk1.same (OthersKept.of_grown (p := fun k => k = g) (g := g) (grown_set (i := 1) (u := .int .u64 (N : Nat)) (grown_refl w1 g)) rfl))
  clear h1 hk1 hf1
  go_wp2_with fail
  go_ret2
  exact ⟨rfl, v', H2.out, kept_or HK.out, fun k hk => .inr (HF.out k hk)⟩
set_option maxRecDepth 100000 in
theorem rt_begin_full (g : Nat) (v : Value) (tx number : Nat) (T : TT) (w : World) (h : RtAt w g v tx number T) (hf : 32 ≤ T.length ∨ 4611686018427387904 < tx) :
    Calls Try.prog 75 #[.pointer (some ⟨g, 0, none⟩)] w fun e w' => e = .returned (.tuple #[.int .u64 0, .int .i64 4]) ∧ w' = w := by
  have c0 := h.c0
  have c1 := h.c1
  obtain ⟨b, cp, rfl, hcp, hcm, _, _⟩ := h.form
  clear h
  by_cases h1 : 32 ≤ T.length
  · have e1 : (32 : Int) ≤ (T.length : Int) := by omega
    have e1' : decide (32 ≤ T.length) = true := by simpa using h1
    clear hf
    go_enter Try.func75, Try.ntmps75
    go_wp2_with fail
    go_ret2
    exact ⟨rfl, rfl⟩
  · have e1 : ¬ (32 : Int) ≤ (T.length : Int) := by omega
    have e1' : decide (32 ≤ T.length) = false := by simpa using h1
    have e2 : 4611686018427387904 < (tx : Int) := by omega
    clear hf
    go_enter Try.func75, Try.ntmps75
    go_wp2_with fail
    go_ret2
    exact ⟨rfl, rfl⟩

set_option maxHeartbeats 4000000 in
set_option maxRecDepth 100000 in
theorem rt_end (g : Nat) (v : Value) (tx number : Nat) (T : TT) (k : Nat) {y : TX} (w : World) (h : RtAt w g v tx number T) (hy : getT T k = some y) :
    Calls Try.prog 77 #[.pointer (some ⟨g, 0, none⟩), .int .u64 (k : Nat)] w fun e w' => e = .returned (.int .i64 0) ∧ RtNow w w' g v tx number (delT T k) := by
  have AT := Lib.hid (rt_at g v tx number T k w h)
  have hidx : idxT T k = (whereT T k : Nat) := by unfold idxT; rw [hy]; rfl
  rw [hidx] at AT
  obtain ⟨hil, hie⟩ := T_get_lt h.rising hy
  have HRI := Lib.hid (T_rising_del h.rising hy)
  have HLI := Lib.hid (T_length_del h.rising hy)
  have HI : Hid (delT T k = T.take (whereT T k) ++ T.drop (whereT T k + 1)) := rfl
  have hsm := h.small
  have HH := Lib.hid h
  obtain ⟨b, cp, rfl, hcp, hcm, hbb, _⟩ := h.form
  have c0 := h.c0
  have hgl := blk_lt h.own
  obtain ⟨T', hT'⟩ : ∃ T', T' = delT T k := ⟨_, rfl⟩
  rw [← hT'] at HRI HLI HI ⊢
  clear hT' h hy hbb hidx hie
  generalize whereT T k = j at *
  obtain ⟨i0, hi, hz0, hz1, hz2⟩ := info_parts (P := Try.prog) (e := 68) (z := (tx0 0).val) (size := 6) (bytes := 40) (by kernel_rfl)
  unfold maxLen at hcm
  have e1 : ¬ (j : Int) < 0 := by omega
  have q0 : (0 : Int) ≤ (j : Int) := by omega
  have q1 : (j : Int) ≤ (T.length : Int) := by omega
  have q2 : (j : Int) ≤ (cp : Int) := by omega
  have q3 : ((j + 1 : Nat) : Int) ≤ (T.length : Int) := by omega
  have q4 : (0 : Int) ≤ ((j + 1 : Nat) : Int) := by omega
  have q5 : (j : Int) + 1 = ((j + 1 : Nat) : Int) := by omega
  have FK := Lib.hid (reads_frontN HH.out.row j (by omega))
  have GK := Lib.hid (reads_backN HH.out.row (j + 1) (by omega))
  go_enter Try.func77, Try.ntmps77
  go_wp2_with fail
  refine AT.out.mono ?_
  rintro e w1 ⟨rfl, rfl⟩
  go_wp2_with (at_builtin; refine wpList_append_any _ rfl (.tmp 12) (.tmp 18) 61 rfl w1.heap.size 68 i0 (tx0 0).val 6 40 Try.underlying61 hi hz0 hz1 hz2 rfl (by decide) (.slice none 0 0) (0) ([]) (by rfl) (World.ownsRow_nil _ _ _ _) (.slice b j cp) (j) ((cellsT T).take (j * 6)) (by rfl) (FK.out) (fun u hu => cellsT_one T u (List.mem_of_mem_take hu)) (by unfold maxLen; omega) (by omega) (Nat.le_refl _) ?_; intro v8 w8 ho hg; refine Aside.out ?_)
  have HO8 := Lib.hid ho
  have HB8 := Lib.hid (below_own (Below.refl _ _) (World.ownsRow_nil w1 w1.heap.size 68 6) (Nat.le_refl _) hg)
  clear ho hg c0
  have c0 := (HH.out.below HB8.out).c0
  have q6 : ((j + 1 : Nat) : Int) ≤ (cp : Int) := by omega
  obtain ⟨J, hJ⟩ : ∃ J, J = j + 1 := ⟨_, rfl⟩
  rw [← hJ] at q3 q4 q5 q6 GK HI
  have HJ := Lib.hid hJ
  clear hJ
  unfold Aside
  go_wp2_with (at_builtin; refine wpList_append_any _ rfl (.tmp 21) (.tmp 28) 61 rfl w1.heap.size 68 i0 (tx0 0).val 6 40 Try.underlying61 hi hz0 hz1 hz2 rfl (by decide) v8 (0 + j) ([] ++ (cellsT T).take (j * 6)) (by rfl) (HO8.out) (.slice (if cp = J then b else Option.map (fun x => x.add (J * 6)) b) (T.length - J) (cp - J)) (T.length - J) ((cellsT T).drop (J * 6)) (by rfl) (GK.out.below HB8.out) (fun u hu => cellsT_one T u (List.mem_of_mem_drop hu)) (by unfold maxLen; omega) (by omega) (HB8.out.size) ?_; intro v11 w11 ho hg; refine Aside.out ?_)
  all_goals
    have HB11 := Lib.hid (below_own HB8.out HO8.out (Nat.le_refl _) hg)
    have hR : [] ++ (cellsT T).take (j * 6) ++ (cellsT T).drop (J * 6) = cellsT T' := by rw [HI.out, cellsT_app, cellsT_take, cellsT_drop]; simp
    have hN : 0 + j + (T.length - J) = T'.length := by have := HLI.out; have := HJ.out; omega
    rw [hR, hN] at ho
    have HA11 := Lib.hid (HH.out.below HB11.out)
    have f11 := blk_frozen HA11.out.own 0
    have c0 := HA11.out.c0
    have HRn := Lib.hid (HA11.out.set0 ho (by omega) HRI.out (by have := HLI.out; omega))
    have HFK : Hid (∀ x, v11.ownBlock = some x → w1.heap.size ≤ x) := by
      show ∀ x, _
      intro x hx
      exact (ho.lt x hx).1
    obtain ⟨b11, cp11, rfl, _, _, _⟩ := own_form6 ho
    have HKn := Lib.hid ((OthersKept.of_below (p := fun x => x = g) HB11.out).same (OthersKept.of_grown (p := fun x => x = g) (g := g) (grown_set (i := 0) (u := .slice b11 T'.length cp11) (grown_refl w11 g)) rfl))
    clear ho hg hR hN FK GK HO8 HB8
    generalize T'.length = NT at *
    unfold Aside
    go_wp2_with fail
    go_ret
    exact ⟨rfl, _, HRn.out, kept_or HKn.out, fun x hx => .inr (HFK.out x hx)⟩
theorem rt_end_none (g : Nat) (v : Value) (tx number : Nat) (T : TT) (k : Nat) (w : World) (h : RtAt w g v tx number T) (hy : getT T k = none) :
    Calls Try.prog 77 #[.pointer (some ⟨g, 0, none⟩), .int .u64 (k : Nat)] w fun e w' => e = .returned (.int .i64 230) ∧ w' = w := by
  have AT := Lib.hid (rt_at g v tx number T k w h)
  have hidx : idxT T k = -1 := by unfold idxT; rw [hy]; rfl
  rw [hidx] at AT
  clear h hy hidx
  go_enter Try.func77, Try.ntmps77
  go_wp2_with fail
  refine AT.out.mono ?_
  rintro e w1 ⟨rfl, rfl⟩
  go_wp2_with fail
  go_ret
  exact ⟨rfl, rfl⟩

set_option maxHeartbeats 4000000 in
set_option maxRecDepth 100000 in
theorem rt_commit (g : Nat) (v : Value) (tx number : Nat) (T : TT) (k : Nat) {y : TX} (w : World) (h : RtAt w g v tx number T) (hy : getT T k = some y) (hn : number ≤ 4611686018427387904) :
    Calls Try.prog 76 #[.pointer (some ⟨g, 0, none⟩), .int .u64 (k : Nat)] w fun e w' => e = .returned (.tuple #[.int .u64 (number : Nat), .int .i64 0]) ∧ RtNow w w' g v tx (number + 1) (delT T k) := by
  have AT := Lib.hid (rt_at g v tx number T k w h)
  have hidx : idxT T k = (whereT T k : Nat) := by unfold idxT; rw [hy]; rfl
  rw [hidx] at AT
  have e0 : ¬ ((whereT T k : Nat) : Int) < 0 := by omega
  have c2 := h.c2
  have f2 := blk_frozen h.own 2
  have e2 : ¬ 4611686018427387904 < (number : Int) := by omega
  have hw : IntKind.u64.wrap ((number : Int) + 1) = ((number + 1 : Nat) : Int) := by rw [IntKind.wrap_u64]; omega
  have EN := Lib.hid (rt_end g v tx (number + 1) T k _ (h.set2 (number + 1)) hy)
  have HK := Lib.hid (kept_or (v := v) (OthersKept.of_grown (p := fun k => k = g) (g := g) (grown_set (i := 2) (u := .int .u64 ((number + 1 : Nat) : Int)) (grown_refl w g)) rfl))
  have hsz : (w.setCell ⟨g, 2, none⟩ (.int .u64 ((number + 1 : Nat) : Int))).heap.size = w.heap.size := set_lt
  have HSZ := Lib.hid hsz
  generalize number + 1 = N at *
  clear h hy hidx hsz
  go_enter Try.func76, Try.ntmps76
  go_wp2_with fail
  refine AT.out.mono ?_
  rintro e w1 ⟨rfl, rfl⟩
  go_wp2_with fail
  refine EN.out.mono ?_
  rintro e w2 ⟨rfl, v', h2, hk2, hf2⟩
  have H2 := Lib.hid h2
  have HF2 := Lib.hid hf2
  have HK2 := Lib.hid (HK.out.same hk2)
  clear h2 hk2 hf2
  go_wp2_with fail
  go_ret2
  exact ⟨rfl, v', H2.out, HK2.out, fun k hk => (HF2.out k hk).imp id (fun h => by rw [HSZ.out] at h; exact h)⟩
theorem rt_commit_no (g : Nat) (v : Value) (tx number : Nat) (T : TT) (k : Nat) (w : World) (h : RtAt w g v tx number T) (hf : getT T k = none ∨ 4611686018427387904 < number) :
    Calls Try.prog 76 #[.pointer (some ⟨g, 0, none⟩), .int .u64 (k : Nat)] w fun e w' => e = .returned (.tuple #[.int .u64 0, .int .i64 (if (getT T k).isSome then 4 else 230)]) ∧ w' = w := by
  have AT := Lib.hid (rt_at g v tx number T k w h)
  have c2 := h.c2
  clear h
  cases hy : getT T k with
  | none =>
    have hidx : idxT T k = -1 := by unfold idxT; rw [hy]; rfl
    rw [hidx] at AT
    clear hf hy hidx
    go_enter Try.func76, Try.ntmps76
    go_wp2_with fail
    refine AT.out.mono ?_
    rintro e w1 ⟨rfl, rfl⟩
    go_wp2_with fail
    go_ret2
    exact ⟨rfl, rfl⟩
  | some y =>
    have hidx : idxT T k = (whereT T k : Nat) := by unfold idxT; rw [hy]; rfl
    rw [hidx] at AT
    rw [hy] at hf
    have e0 : ¬ ((whereT T k : Nat) : Int) < 0 := by omega
    have e2 : 4611686018427387904 < (number : Int) := by rcases hf with h | h; cases h; omega
    clear hf hy hidx
    go_enter Try.func76, Try.ntmps76
    go_wp2_with fail
    refine AT.out.mono ?_
    rintro e w1 ⟨rfl, rfl⟩
    go_wp2_with fail
    go_ret2
    exact ⟨rfl, rfl⟩

open Go.Maps
theorem cellsT_set6 (A B : TT) (y x : TX) : ((((((cellsT (A ++ y :: B)).set (A.length * 6) (.int .u64 (x.tx : Nat))).set (A.length * 6 + 1) (.int .u64 (x.first : Nat))).set (A.length * 6 + 2) (.int .u64 (x.last : Nat))).set (A.length * 6 + 3) (.int .u64 (x.next : Nat))).set (A.length * 6 + 4) (.int .u32 (x.page : Nat))).set (A.length * 6 + 5) (.int .u16 (x.slot : Nat)) = cellsT (A ++ x :: B) := by
  rw [cellsT_app, cellsT_app, cellsT_cons, cellsT_cons]
  have hA := cellsT_len A
  rw [← hA]
  obtain ⟨yt, yf, yl, yn, yp, ys⟩ := y
  simp [List.set_append]
theorem RtAt.put {w : World} {g gv cp tx number : Nat} {T : TT} (h : RtAt w g (.slice (some ⟨gv, 0, none⟩) T.length cp) tx number T) (x : TX) {y : TX} (hy : getT T x.tx = some y) :
    RtAt ((((((w.setCell ⟨gv, whereT T x.tx * 6, none⟩ (.int .u64 (x.tx : Nat))).setCell ⟨gv, whereT T x.tx * 6 + 1, none⟩ (.int .u64 (x.first : Nat))).setCell ⟨gv, whereT T x.tx * 6 + 2, none⟩ (.int .u64 (x.last : Nat))).setCell ⟨gv, whereT T x.tx * 6 + 3, none⟩ (.int .u64 (x.next : Nat))).setCell ⟨gv, whereT T x.tx * 6 + 4, none⟩ (.int .u32 (x.page : Nat))).setCell ⟨gv, whereT T x.tx * 6 + 5, none⟩ (.int .u16 (x.slot : Nat))) g (.slice (some ⟨gv, 0, none⟩) T.length cp) tx number (setT T x) ∧ OthersKept w ((((((w.setCell ⟨gv, whereT T x.tx * 6, none⟩ (.int .u64 (x.tx : Nat))).setCell ⟨gv, whereT T x.tx * 6 + 1, none⟩ (.int .u64 (x.first : Nat))).setCell ⟨gv, whereT T x.tx * 6 + 2, none⟩ (.int .u64 (x.last : Nat))).setCell ⟨gv, whereT T x.tx * 6 + 3, none⟩ (.int .u64 (x.next : Nat))).setCell ⟨gv, whereT T x.tx * 6 + 4, none⟩ (.int .u32 (x.page : Nat))).setCell ⟨gv, whereT T x.tx * 6 + 5, none⟩ (.int .u16 (x.slot : Nat))) (fun k => k = gv) := by
  have hkept : OthersKept w ((((((w.setCell ⟨gv, whereT T x.tx * 6, none⟩ (.int .u64 (x.tx : Nat))).setCell ⟨gv, whereT T x.tx * 6 + 1, none⟩ (.int .u64 (x.first : Nat))).setCell ⟨gv, whereT T x.tx * 6 + 2, none⟩ (.int .u64 (x.last : Nat))).setCell ⟨gv, whereT T x.tx * 6 + 3, none⟩ (.int .u64 (x.next : Nat))).setCell ⟨gv, whereT T x.tx * 6 + 4, none⟩ (.int .u32 (x.page : Nat))).setCell ⟨gv, whereT T x.tx * 6 + 5, none⟩ (.int .u16 (x.slot : Nat))) (fun k => k = gv) := OthersKept.of_grown (p := fun k => k = gv) (g := gv) (grown_set (grown_set (grown_set (grown_set (grown_set (grown_set (grown_refl _ _))))))) rfl
  refine ⟨?_, hkept⟩
  have hgv : g ≠ gv := fun e => h.far gv rfl e.symm
  obtain ⟨A, B, hT, hs, hxy, _, _⟩ := T_set_split h.rising hy
  have hw : whereT T x.tx = A.length := by
    obtain ⟨A', B', hT', hk, hA', hB', hw⟩ := T_get_split h.rising hy
    obtain ⟨A2, B2, e2, hs2, _, hA2, hB2⟩ := T_set_split h.rising hy
    have e3 : setT T x = A' ++ x :: B' := by
      unfold setT
      rw [hw, hT']
      simp
    rw [hs] at e3
    have hl := congrArg List.length hT
    rw [hw]
    rw [hT] at hT'
    -- both split at the first place of the number
    have h1 := congrArg (List.findIdx (fun z : TX => z.tx == x.tx)) hT'
    have f : ∀ (C D : TT) (z : TX), (∀ q ∈ C, q.tx < x.tx) → z.tx = x.tx → List.findIdx (fun z : TX => z.tx == x.tx) (C ++ z :: D) = C.length := by
      intro C D z hC hz
      induction C with
      | nil => simp [List.findIdx_cons, hz]
      | cons c r ih =>
        have hc := hC c (by simp)
        rw [List.cons_append, List.findIdx_cons, show (c.tx == x.tx) = false by simp; omega]
        simp [ih (fun q hq => hC q (by simp [hq]))]
    have hA : ∀ q ∈ A, q.tx < x.tx := by assumption
    rw [f A B y hA hxy, f A' B' y hA' hk] at h1
    exact h1.symm
  have o0 := (h.row.stored (whereT T x.tx * 6) (.int .u64 (x.tx : Nat))).1
  have o1 := (o0.stored (whereT T x.tx * 6 + 1) (.int .u64 (x.first : Nat))).1
  have o2 := (o1.stored (whereT T x.tx * 6 + 2) (.int .u64 (x.last : Nat))).1
  have o3 := (o2.stored (whereT T x.tx * 6 + 3) (.int .u64 (x.next : Nat))).1
  have o4 := (o3.stored (whereT T x.tx * 6 + 4) (.int .u32 (x.page : Nat))).1
  have o5 := (o4.stored (whereT T x.tx * 6 + 5) (.int .u16 (x.slot : Nat))).1
  refine ⟨hkept.heap h.own hgv, ?_, h.far, T_rising_set h.rising hy, by rw [T_length_set]; exact h.small⟩
  rw [T_length_set, hs, ← cellsT_set6 A B y x, ← hT, ← hw]
  exact o5

set_option maxHeartbeats 4000000 in
set_option maxRecDepth 100000 in
theorem rt_set (g : Nat) (v : Value) (tx number : Nat) (T : TT) (x : TX) {y : TX} (w : World) (h : RtAt w g v tx number T) (hy : getT T x.tx = some y) :
    Calls Try.prog 78 #[.pointer (some ⟨g, 0, none⟩), x.val] w fun e w' => e = .returned (.int .i64 0) ∧ RtNow w w' g v tx number (setT T x) := by
  obtain ⟨W1, hW1⟩ : ∃ W, W = w.alloc (.cells x.cells.toArray 68) := ⟨_, rfl⟩
  have hB1 : Below w.heap.size w W1 := by rw [hW1]; exact (Below.refl _ _).alloc (Nat.le_refl _) _
  have P1 := Lib.hid (show W1.heap[w.heap.size]? = some (.cells x.cells.toArray 68 (0, 0)) by rw [hW1]; exact heap_alloc_new w _)
  have h1 := h.below hB1
  have AT := Lib.hid (rt_at g v tx number T x.tx W1 h1)
  have hidx : idxT T x.tx = (whereT T x.tx : Nat) := by unfold idxT; rw [hy]; rfl
  rw [hidx] at AT
  obtain ⟨hil, hie⟩ := T_get_lt h.rising hy
  have hsm := h.small
  have hgl := blk_lt h.own
  obtain ⟨b, cp, rfl, hcp, hcm, hbb, hcell⟩ := h.form
  obtain ⟨gv, rfl⟩ := hbb (by omega)
  have hgvl : gv < w.heap.size := cell_lt (hcell _ hil gv rfl 0 _ (by omega) rfl)
  have H1 := Lib.hid h1
  have HB1 := Lib.hid hB1
  have HY := Lib.hid hy
  have hrow := Lib.hid h1.row
  clear h h1 hB1 hbb hcell hidx hie hy
  generalize hJ : whereT T x.tx = j at *
  have HJ := Lib.hid hJ
  clear hJ
  have e0 : ¬ (j : Int) < 0 := by omega
  have q0 : (0 : Int) ≤ (j : Int) := by omega
  have q1 : (j : Int) < (T.length : Int) := by omega
  simp only [TX.val, TX.cells] at *
  go_enter Try.func78, Try.ntmps78
  go_upto_region 1 with fail
  rw [← hW1]
  clear hW1
  obtain ⟨⟨x0, x1, x2, x3, x4, x5⟩, _⟩ := cells6 P1.out
  have c0 := H1.out.c0
  go_wp2_with fail
  refine AT.out.mono ?_
  rintro e w2 ⟨rfl, rfl⟩
  go_upto_region 4 with fail
  have d0 := ext_cell c0 (cell_lt c0)
  have d1 := ext_cell x0 (cell_lt x0)
  have d2 := ext_cell x1 (cell_lt x1)
  have d3 := ext_cell x2 (cell_lt x2)
  have d4 := ext_cell x3 (cell_lt x3)
  have d5 := ext_cell x4 (cell_lt x4)
  have d6 := ext_cell x5 (cell_lt x5)
  refine wp_region_ext_tail w2.heap.size 7 (by kernel_rfl) (by kernel_rfl) ?_
  simp only [List.take_succ_cons, List.take_zero, List.drop_succ_cons, List.drop_zero]
  repeat (go_big_quiet_step (fail))
  refine wpQuiet_nil ?_
  rintro _ ⟨X, rfl⟩
  have hX := X.below
  generalize X.val = wx at hX
  have hR := H1.out.below hX
  obtain ⟨hP, hK⟩ := hR.put x HY.out
  rw [HJ.out] at hP hK
  obtain ⟨cur, hcur⟩ : ∃ cur, wx.heap[gv]? = some (.cells cur 68 (0, 0)) := by
    rcases hR.row.2 with ⟨he, _⟩ | ⟨g', cap', cur, he, _, hg', _⟩
    · cases he
    · injection he with he _ _
      injection he with he
      injection he with he
      subst he
      exact ⟨cur, hg'⟩
  have t0 := own_cell6 hR.row (j * 6 + 0) _ (by rw [← HJ.out, cellsT_get T _ 0 (by rw [HJ.out]; exact hil) (by omega)]; rfl)
  have f0 := blk_frozen hcur (j * 6 + 0)
  have t1 := own_cell6 hR.row (j * 6 + 1) _ (by rw [← HJ.out, cellsT_get T _ 1 (by rw [HJ.out]; exact hil) (by omega)]; rfl)
  have f1 := blk_frozen hcur (j * 6 + 1)
  have t2 := own_cell6 hR.row (j * 6 + 2) _ (by rw [← HJ.out, cellsT_get T _ 2 (by rw [HJ.out]; exact hil) (by omega)]; rfl)
  have f2 := blk_frozen hcur (j * 6 + 2)
  have t3 := own_cell6 hR.row (j * 6 + 3) _ (by rw [← HJ.out, cellsT_get T _ 3 (by rw [HJ.out]; exact hil) (by omega)]; rfl)
  have f3 := blk_frozen hcur (j * 6 + 3)
  have t4 := own_cell6 hR.row (j * 6 + 4) _ (by rw [← HJ.out, cellsT_get T _ 4 (by rw [HJ.out]; exact hil) (by omega)]; rfl)
  have f4 := blk_frozen hcur (j * 6 + 4)
  have t5 := own_cell6 hR.row (j * 6 + 5) _ (by rw [← HJ.out, cellsT_get T _ 5 (by rw [HJ.out]; exact hil) (by omega)]; rfl)
  have f5 := blk_frozen hcur (j * 6 + 5)
  rw [Nat.add_zero] at t0 f0
  have HP := Lib.hid hP
  have HK := Lib.hid ((OthersKept.of_below (p := fun k => k = gv) HB1.out).same ((OthersKept.of_below (p := fun k => k = gv) hX).same hK))
  clear hP hK hR hcur hX d0 d1 d2 d3 d4 d5 d6
  generalize T[whereT T x.tx]'(by rw [HJ.out]; exact hil) = y0 at *
  go_wp2_with fail
  go_ret
  refine ⟨rfl, _, HP.out, ⟨HK.out.os, HK.out.tape, HK.out.output, HK.out.size, fun k hk hp => HK.out.block k hk (fun e => hp (.inr (by subst e; rfl)))⟩, fun k hk => .inl hk⟩

open Go.Maps
set_option maxHeartbeats 4000000 in
set_option maxRecDepth 100000 in
theorem rt_set_none (g : Nat) (v : Value) (tx number : Nat) (T : TT) (x : TX) (w : World) (h : RtAt w g v tx number T) (hy : getT T x.tx = none) :
    Calls Try.prog 78 #[.pointer (some ⟨g, 0, none⟩), x.val] w fun e w' => e = .returned (.int .i64 230) ∧ Below w.heap.size w w' := by
  obtain ⟨W1, hW1⟩ : ∃ W, W = w.alloc (.cells x.cells.toArray 68) := ⟨_, rfl⟩
  have hB1 : Below w.heap.size w W1 := by rw [hW1]; exact (Below.refl _ _).alloc (Nat.le_refl _) _
  have P1 := Lib.hid (show W1.heap[w.heap.size]? = some (.cells x.cells.toArray 68 (0, 0)) by rw [hW1]; exact heap_alloc_new w _)
  have h1 := h.below hB1
  have AT := Lib.hid (rt_at g v tx number T x.tx W1 h1)
  have hidx : idxT T x.tx = -1 := by unfold idxT; rw [hy]; rfl
  rw [hidx] at AT
  have HB1 := Lib.hid hB1
  clear h h1 hB1 hidx hy
  simp only [TX.val, TX.cells] at *
  go_enter Try.func78, Try.ntmps78
  go_upto_region 1 with fail
  rw [← hW1]
  clear hW1
  obtain ⟨⟨x0, x1, x2, x3, x4, x5⟩, _⟩ := cells6 P1.out
  go_wp2_with fail
  refine AT.out.mono ?_
  rintro e w2 ⟨rfl, rfl⟩
  clear x0 x1 x2 x3 x4 x5
  go_wp2_with fail
  go_ret
  exact ⟨rfl, HB1.out⟩

set_option maxHeartbeats 4000000 in
set_option maxRecDepth 100000 in
theorem rt_add (g : Nat) (v : Value) (tx number : Nat) (T : TT) (x : TX) (w : World) (h : RtAt w g v tx number T) (hy : getT T x.tx = none) (hp : 1 ≤ x.tx) (h9 : x.tx ≤ 4611686018427387904) (hn : T.length < 32) :
    Calls Try.prog 79 #[.pointer (some ⟨g, 0, none⟩), x.val] w fun e w' => e = .returned (.int .i64 0) ∧ RtNow w w' g v (max tx (x.tx + 1)) number (insT T x) := by
  obtain ⟨W1, hW1⟩ : ∃ W, W = w.alloc (.cells x.cells.toArray 68) := ⟨_, rfl⟩
  have hB1 : Below w.heap.size w W1 := by rw [hW1]; exact (Below.refl _ _).alloc (Nat.le_refl _) _
  have P1 := Lib.hid (show W1.heap[w.heap.size]? = some (.cells x.cells.toArray 68 (0, 0)) by rw [hW1]; exact heap_alloc_new w _)
  have h1 := h.below hB1
  have AT := Lib.hid (rt_at g v tx number T x.tx W1 h1)
  have hidx : idxT T x.tx = -1 := by unfold idxT; rw [hy]; rfl
  rw [hidx] at AT
  have PU := Lib.hid (rt_put g v tx number T x W1 h1 hy hn)
  have c0 := h1.c0
  obtain ⟨b, cp, rfl, hcp, hcm, _, _⟩ := h.form
  have e1 : ((x.tx : Int) == 0) = false := by simp; omega
  have e2 : ¬ 4611686018427387904 < (x.tx : Int) := by omega
  have e3 : ¬ (32 : Int) ≤ (T.length : Int) := by omega
  have e4 : decide (32 ≤ T.length) = false := by simp; omega
  have hw1 : IntKind.u64.wrap ((x.tx : Int) + 1) = ((x.tx + 1 : Nat) : Int) := by rw [IntKind.wrap_u64]; omega
  have HB1 := Lib.hid hB1
  have hgl := blk_lt h.own
  clear h h1 hB1 hidx hy
  simp only [TX.val, TX.cells] at *
  go_enter Try.func79, Try.ntmps79
  go_upto_region 1 with fail
  rw [← hW1]
  clear hW1
  obtain ⟨⟨x0, x1, x2, x3, x4, x5⟩, _⟩ := cells6 P1.out
  go_wp2_with fail
  refine AT.out.mono ?_
  rintro e w2 ⟨rfl, rfl⟩
  go_wp2_with fail
  refine PU.out.mono ?_
  rintro e w3 ⟨rfl, v', h3, hk3, hf3⟩
  have hp3 := hk3.heap P1.out (by omega)
  clear x0 x1 x2 x3 x4 x5 c0
  have c1 := h3.c1
  have z0 : w3.cell? ⟨w.heap.size, 0, none⟩ = some (.int .u64 (x.tx : Nat)) := by rw [blk_cell hp3]; rfl
  have H3 := Lib.hid h3
  have HF3 := Lib.hid hf3
  have HK3 := Lib.hid ((OthersKept.of_below (p := fun k => k = g) HB1.out).same hk3)
  have hsz := HB1.out.size
  clear h3 hk3 hf3 hp3
  go_upto_region 8 with fail
  have q1 := ext_cell c1 (cell_lt c1)
  have q2 := ext_cell z0 (cell_lt z0)
  refine wp_region_ext_tail w3.heap.size 11 (by kernel_rfl) (by kernel_rfl) ?_
  simp only [List.take_succ_cons, List.take_zero, List.drop_succ_cons, List.drop_zero]
  obtain ⟨M, hM⟩ : ∃ M, M = max tx (x.tx + 1) := ⟨_, rfl⟩
  have hmx : ∀ ats ty W, (Builtin.max_ ats ty #[.int .u64 (tx : Nat), .int .u64 ((x.tx : Int) + 1)]).run Try.prog W = .ok (.int .u64 (M : Nat)) W := fun ats ty W => by
    have := run_max_u64 (P := Try.prog) tx (x.tx + 1) ats ty W
    rw [← hM] at this
    exact this
  have HM := Lib.hid hM
  clear hM
  repeat (go_big_quiet_step (fail))
  refine wpQuiet_nil ?_
  rintro _ ⟨Y, rfl⟩
  have hY := Y.below
  generalize Y.val = w6 at *
  have h6 := H3.out.below hY
  have c16 := h6.c1
  have f16 := blk_frozen h6.own 1
  have H6 := Lib.hid (h6.set1 M)
  have HK6 := Lib.hid ((HK3.out.same (OthersKept.of_below (p := fun k => k = g) hY)).same (OthersKept.of_grown (p := fun k => k = g) (g := g) (grown_set (i := 1) (u := .int .u64 (M : Nat)) (grown_refl w6 g)) rfl))
  clear h6 hY q1 q2 c1 z0
  go_wp2_with fail
  go_ret
  exact ⟨rfl, v', by rw [← HM.out]; exact H6.out, kept_or HK6.out, fun k hk => .inr (Nat.le_trans hsz (HF3.out k hk))⟩


open Go.Maps
set_option maxHeartbeats 4000000 in
set_option maxRecDepth 100000 in
theorem rt_add_no (g : Nat) (v : Value) (tx number : Nat) (T : TT) (x : TX) (w : World) (h : RtAt w g v tx number T) (hf : x.tx = 0 ∨ 4611686018427387904 < x.tx ∨ (getT T x.tx).isSome = true ∨ 32 ≤ T.length) :
    Calls Try.prog 79 #[.pointer (some ⟨g, 0, none⟩), x.val] w fun e w' => e = .returned (.int .i64 (if x.tx = 0 ∨ 4611686018427387904 < x.tx then 2 else if (getT T x.tx).isSome then 8 else 4)) ∧ Below w.heap.size w w' := by
  obtain ⟨W1, hW1⟩ : ∃ W, W = w.alloc (.cells x.cells.toArray 68) := ⟨_, rfl⟩
  have hB1 : Below w.heap.size w W1 := by rw [hW1]; exact (Below.refl _ _).alloc (Nat.le_refl _) _
  have P1 := Lib.hid (show W1.heap[w.heap.size]? = some (.cells x.cells.toArray 68 (0, 0)) by rw [hW1]; exact heap_alloc_new w _)
  have h1 := h.below hB1
  have AT := Lib.hid (rt_at g v tx number T x.tx W1 h1)
  have c0 := h1.c0
  obtain ⟨b, cp, rfl, hcp, hcm, _, _⟩ := h.form
  have HB1 := Lib.hid hB1
  have HF := Lib.hid hf
  have HX : Hid (idxT T x.tx = if (getT T x.tx).isSome then ((whereT T x.tx : Nat) : Int) else -1) := rfl
  clear h h1 hB1 hf
  obtain ⟨I, hI⟩ : ∃ I, I = idxT T x.tx := ⟨_, rfl⟩
  rw [← hI] at AT HX
  clear hI
  obtain ⟨q, hq⟩ : ∃ q, q = (getT T x.tx).isSome := ⟨_, rfl⟩
  rw [← hq] at HX HF ⊢
  clear hq
  simp only [TX.val, TX.cells] at *
  by_cases h0 : x.tx = 0
  · rw [if_pos (.inl h0)]
    have e1 : ((x.tx : Int) == 0) = true := by simp; omega
    clear h0
    go_enter Try.func79, Try.ntmps79
    go_upto_region 1 with fail
    rw [← hW1]
    clear hW1
    obtain ⟨⟨x0, x1, x2, x3, x4, x5⟩, _⟩ := cells6 P1.out
    go_wp2_with fail
    go_ret
    exact ⟨rfl, HB1.out⟩
  have e1 : ((x.tx : Int) == 0) = false := by simp; omega
  by_cases h9 : 4611686018427387904 < x.tx
  · rw [if_pos (.inr h9)]
    have e2 : 4611686018427387904 < (x.tx : Int) := by omega
    clear h0
    go_enter Try.func79, Try.ntmps79
    go_upto_region 1 with fail
    rw [← hW1]
    clear hW1
    obtain ⟨⟨x0, x1, x2, x3, x4, x5⟩, _⟩ := cells6 P1.out
    go_wp2_with fail
    go_ret
    exact ⟨rfl, HB1.out⟩
  have e2 : ¬ 4611686018427387904 < (x.tx : Int) := by omega
  rw [if_neg (by omega)]
  cases q with
  | true =>
    have hI : I = ((whereT T x.tx : Nat) : Int) := HX.out
    have e3 : (0 : Int) ≤ I := by omega
    have e4 : decide ((0 : Int) ≤ I) = true := by simpa using e3
    clear h0 h9 hI
    go_enter Try.func79, Try.ntmps79
    go_upto_region 1 with fail
    rw [← hW1]
    clear hW1
    obtain ⟨⟨x0, x1, x2, x3, x4, x5⟩, _⟩ := cells6 P1.out
    go_wp2_with fail
    refine AT.out.mono ?_
    rintro e w2 ⟨rfl, rfl⟩
    go_wp2_with fail
    go_ret
    exact ⟨rfl, HB1.out⟩
  | false =>
    have hI : I = -1 := HX.out
    have e5 : (32 : Int) ≤ (T.length : Int) := by rcases HF.out with h | h | h | h; omega; omega; cases h; omega
    have e6 : decide (32 ≤ T.length) = true := by simp; omega
    rw [hI] at AT
    clear h0 h9 hI
    go_enter Try.func79, Try.ntmps79
    go_upto_region 1 with fail
    rw [← hW1]
    clear hW1
    obtain ⟨⟨x0, x1, x2, x3, x4, x5⟩, _⟩ := cells6 P1.out
    go_wp2_with fail
    refine AT.out.mono ?_
    rintro e w2 ⟨rfl, rfl⟩
    go_wp2_with fail
    go_ret
    exact ⟨rfl, HB1.out⟩


open Go.Maps
set_option maxHeartbeats 4000000 in
set_option maxRecDepth 100000 in
theorem rt_get (g : Nat) (v : Value) (tx number : Nat) (T : TT) (k : Nat) (w : World) (h : RtAt w g v tx number T) :
    Calls Try.prog 55 #[.pointer (some ⟨g, 0, none⟩), .int .u64 (k : Nat)] w fun e w' => e = .returned (.tuple #[((getT T k).getD (tx0 0)).val, .bool (getT T k).isSome]) ∧ Below w.heap.size w w' := by
  obtain ⟨W1, hW1⟩ : ∃ W, W = w.alloc (.cells #[.int .u64 0, .int .u64 0, .int .u64 0, .int .u64 0, .int .u32 0, .int .u16 0] 68) := ⟨_, rfl⟩
  have hB1 : Below w.heap.size w W1 := by rw [hW1]; exact (Below.refl _ _).alloc (Nat.le_refl _) _
  have B1 : W1.heap[w.heap.size]? = some (.cells #[.int .u64 0, .int .u64 0, .int .u64 0, .int .u64 0, .int .u32 0, .int .u16 0] 68 (0, 0)) := by rw [hW1]; exact heap_alloc_new w _
  have h1 := h.below hB1
  have AT := Lib.hid (rt_at g v tx number T k W1 h1)
  have c0 := h1.c0
  obtain ⟨_, f0, f1, f2, f3, f4, f5⟩ := cells6 B1
  have HB1 := Lib.hid hB1
  cases hy : getT T k with
  | none =>
    have hidx : idxT T k = -1 := by unfold idxT; rw [hy]; rfl
    rw [hidx] at AT
    have XB := Lib.hid (put6_blk (x := tx0 0) B1)
    have XK := Lib.hid (put6_kept W1 w.heap.size (tx0 0))
    unfold put6 at XB XK
    have HB := Lib.hid (OthersKept.below HB1.out XK.out (fun k hk e => by omega))
    clear h h1 hB1 B1 hidx hy
    go_enter Try.func55, Try.ntmps55
    go_upto_region 1 with fail
    rw [← hW1]
    clear hW1
    go_wp2_with fail
    refine AT.out.mono ?_
    rintro e w2 ⟨rfl, rfl⟩
    go_wp2_with fail
    refine bodyPost_ret (v := .tuple #[.agg #[.int .u64 0, .int .u64 0, .int .u64 0, .int .u64 0, .int .u32 0, .int .u16 0], .bool false]) (results_cell_tmp_x (p := 4) (u := 5) (by kernel_rfl) _ _ w.heap.size 68 _ (0, 0) _ rfl XB.out Try.underlying68 rfl (by kernel_rfl)) rfl ?_
    exact ⟨rfl, HB.out⟩
  | some y =>
    have hidx : idxT T k = ((whereT T k : Nat) : Int) := by unfold idxT; rw [hy]; rfl
    rw [hidx] at AT
    obtain ⟨hil, hie⟩ := T_get_lt h.rising hy
    obtain ⟨b, cp, rfl, hcp, hcm, hbb, hcell⟩ := h1.form
    obtain ⟨gv, rfl⟩ := hbb (by omega)
    have t0 := hcell _ hil gv rfl 0 _ (by omega) rfl
    have t1 := hcell _ hil gv rfl 1 _ (by omega) rfl
    have t2 := hcell _ hil gv rfl 2 _ (by omega) rfl
    have t3 := hcell _ hil gv rfl 3 _ (by omega) rfl
    have t4 := hcell _ hil gv rfl 4 _ (by omega) rfl
    have t5 := hcell _ hil gv rfl 5 _ (by omega) rfl
    rw [hie] at t0 t1 t2 t3 t4 t5
    rw [Nat.add_zero] at t0
    have XB := Lib.hid (put6_blk (x := y) B1)
    have XK := Lib.hid (put6_kept W1 w.heap.size y)
    unfold put6 at XB XK
    have HB := Lib.hid (OthersKept.below HB1.out XK.out (fun k hk e => by omega))
    have e0 : ¬ ((whereT T k : Nat) : Int) < 0 := by omega
    have q0 : (0 : Int) ≤ ((whereT T k : Nat) : Int) := by omega
    have q1 : ((whereT T k : Nat) : Int) < (T.length : Int) := by omega
    clear h h1 hB1 B1 hidx hy hbb hcell hie
    obtain ⟨yt, yf, yl, yn, yp, ys⟩ := y
    simp only [TX.cells] at *
    generalize whereT T k = j at *
    have e9 : decide ((j : Int) < 0) = false := by simp
    go_enter Try.func55, Try.ntmps55
    go_upto_region 1 with fail
    rw [← hW1]
    clear hW1
    go_wp2_with fail
    refine AT.out.mono ?_
    rintro e w2 ⟨rfl, rfl⟩
    go_wp2_with fail
    refine bodyPost_ret (v := .tuple #[.agg #[.int .u64 (yt : Nat), .int .u64 (yf : Nat), .int .u64 (yl : Nat), .int .u64 (yn : Nat), .int .u32 (yp : Nat), .int .u16 (ys : Nat)], .bool true]) (results_cell_tmp_x (p := 4) (u := 5) (by kernel_rfl) _ _ w.heap.size 68 _ (0, 0) _ rfl XB.out Try.underlying68 rfl (by kernel_rfl)) rfl ?_
    exact ⟨rfl, HB.out⟩

end Go.Proofs.Ytoeaakadpillnaa
