/- The document's area: Set, and Remove at any place. -/
import Derived.Test.YtlpfilpijiglpaaRows
import Derived.Test.YtlpfilpijiglpaaRefRemove
import Derived.Test.YtlpfilpijiglpaaRefCompact
import Derived.Test.YtlpfilpijiglpaaRefPut
import Derived.Test.YtlpfilpijiglpaaSlotLaw
import Derived.Test.YtlpfilpijiglpaaSlotSet
import Derived.Test.YtlpfilpijiglpaaSlotCompact
import Derived.Test.YtlpfilpijiglpaaAppAny
import Derived.Test.YtlpfilpijiglpaaQuietTail
import Derived.Deep.LoopGhost
import Derived.WalkKit
import Derived.WalkLawsBesides
import Derived.WalkSpells
import Derived.LoopTactic
import Derived.WalkMore
import Derived.LoopN
import Derived.Laws.BitsAllLaws
import Derived.Laws.IdiomStrings
import Derived.BigQuiet
import Derived.Deep.QuietTactic
import Derived.Deep.DeepCutAuto
import Derived.Deep.RegionHeld3
import Derived.Deep.DrawnRows
import Derived.Lib.Hide
import Derived.Outline
import Derived.Deep.DeepMust
import Derived.Handy
namespace Go.Proofs.Ytlpfilpijiglpaa
open Go.RowKit
set_option linter.unusedVariables false
set_option linter.unusedSimpArgs false

/-- One place of the directory: its cells, which may be written. -/
theorem RefAt.spot {w : World} {g gB cap gd n cp k : Nat} {b : Ar} (h : RefAt w g gB cap (.slice (some ⟨gd, 0, none⟩) n cp) b) (hn : b.L.length = n) (hk : k < n) :
    ∃ x0 x1 : Value, w.cell? ⟨gd, k * 2, none⟩ = some x0 ∧ w.cell? ⟨gd, k * 2 + 1, none⟩ = some x1 ∧ w.frozen? ⟨gd, k * 2, none⟩ = false ∧ w.frozen? ⟨gd, k * 2 + 1, none⟩ = false := by
  subst hn
  obtain ⟨curd, hbd⟩ : ∃ cs : Array Value, w.heap[gd]? = some (.cells cs 93 (0, 0)) := by
    rcases h.dir.2 with ⟨h, _⟩ | ⟨g', _, cur, h, _, hb, _⟩
    · cases h
    · injection h with h1 _ _; injection h1 with h1; injection h1 with h1 _ _; subst h1; exact ⟨cur, hb⟩
  exact ⟨_, _, dir_cell h.dir (k * 2) _ (places_from _ k hk), dir_cell h.dir (k * 2 + 1) _ (places_size _ k hk), blk_frozen hbd _, blk_frozen hbd _⟩
theorem RefAt.set_spot {w : World} {g gB cap gd n cp k : Nat} {b : Ar} (x y : Nat) (h : RefAt w g gB cap (.slice (some ⟨gd, 0, none⟩) n cp) b) (hn : b.L.length = n) (hk : k < n) :
    RefAt ((w.setCell ⟨gd, k * 2, none⟩ (.int .i64 (x : Nat))).setCell ⟨gd, k * 2 + 1, none⟩ (.int .i64 (y : Nat))) g gB cap (.slice (some ⟨gd, 0, none⟩) n cp) { b with L := b.L.set k (x, y) } := by
  subst hn
  have := h.set_dir k (x, y) hk
  rw [List.length_set] at this
  exact this
theorem kept_spot (w : World) (gd i j : Nat) (x y : Value) : OthersKept w ((w.setCell ⟨gd, i, none⟩ x).setCell ⟨gd, j, none⟩ y) (fun k => k = gd) := OthersKept.of_grown (g := gd) (grown_set (grown_set (grown_refl _ gd))) rfl
theorem OthersKept.then_below {w w1 w2 : World} {p : Nat → Prop} (h : OthersKept w w1 p) (hb : Below w1.heap.size w1 w2) : OthersKept w w2 p := h.trans (OthersKept.of_below (p := fun _ => False) hb) (fun _ _ h => absurd h id)
theorem OthersKept.fresh {w w1 w2 : World} {p : Nat → Prop} {x : Nat} (h : OthersKept w w1 p) (hg : w1.grownBy w2 (some x)) (hx : w.heap.size ≤ x) : OthersKept w w2 p :=
  h.trans (OthersKept.of_grown (p := fun k => k = x) hg rfl) (fun k hk h => by omega)

set_option maxHeartbeats 4000000 in
set_option maxRecDepth 100000 in
theorem refSet_short (g gB cap gd cp k : Nat) (a : Ar) (s : ByteArray) (w : World) (hg : a.Good) (hk : k < a.L.length) (hs : s.size ≤ a.L[k].2) (h : RefAt w g gB cap (.slice (some ⟨gd, 0, none⟩) a.L.length cp) a) :
    Calls Try.prog 56 #[.pointer (some ⟨g, 0, none⟩), .int .i64 k, .string s] w fun e w' => e = .returned (.int .i64 0) ∧ RefAt w' g gB cap (.slice (some ⟨gd, 0, none⟩) a.L.length cp) { a with B := putAt a.B a.L[k].1 s.data.toList, L := a.L.set k (a.L[k].1, s.size) } ∧ OthersKept w w' (refOwn g gB (.slice (some ⟨gd, 0, none⟩) a.L.length cp)) := by
  have hf := hg.fit
  have hn := hf.n
  have b1 := hf.l
  have b2 := hf.hi
  have hsl : s.data.toList.length = s.size := by simp
  have hin := (hg.inn _ (List.getElem_mem hk)).2
  have c2 := h.c2
  obtain ⟨_, cp', hcpe, hcp, hcm, _⟩ := dir_form h.dir
  obtain rfl : cp = cp' := by injection hcpe
  clear hcpe
  unfold maxLen at hcm
  have hne := h.ne
  have hfar := h.far gd rfl
  have hgl := blk_lt h.own
  have hgB := h.row.lt
  have hgd := (h.dir.lt gd rfl).2
  have d0 := dir_cell h.dir _ _ (places_from a.L k hk)
  have d1 := dir_cell h.dir _ _ (places_size a.L k hk)
  have HF : Hid (∀ F : Nat, F = a.L[k].1 → ({ a with B := putAt a.B F s.data.toList, L := a.L.set k (F, s.size) } : Ar) = { a with B := putAt a.B a.L[k].1 s.data.toList, L := a.L.set k (a.L[k].1, s.size) }) := by
    show ∀ F, _
    rintro F rfl
    rfl
  have q0 : (0 : Int) ≤ (k : Int) := by omega
  have q1 : (k : Int) < (a.L.length : Int) := by omega
  have HFe := HF.out _ rfl
  clear HF
  generalize a.L[k].1 = F at *
  generalize a.L[k].2 = Z at *
  have HB0 : Hid (Below w.heap.size w (w.alloc (.cells #[.int .i64 (F : Int), .int .i64 (Z : Int)] 93))) := (Below.refl _ _).alloc (Nat.le_refl _) _
  have HP0 : Hid ((w.alloc (.cells #[.int .i64 (F : Int), .int .i64 (Z : Int)] 93)).heap[w.heap.size]? = some (.cells #[.int .i64 (F : Int), .int .i64 (Z : Int)] 93)) := heap_alloc_new w _
  have H := Lib.hid h
  clear h HFe
  go_enter Try.func56, Try.ntmps56
  go_wp2_with fail
  go_loopw [8] (fun s8 wr => ∃ i : Nat, i ≤ s.size ∧ s8 = .int .i64 i ∧ RefAt wr g gB cap (.slice (some ⟨gd, 0, none⟩) a.L.length cp) { a with B := putAt a.B F (s.data.toList.take i) } ∧ OthersKept w wr (refOwn g gB (.slice (some ⟨gd, 0, none⟩) a.L.length cp)) ∧ wr.heap[w.heap.size]? = some (.cells #[.int .i64 (F : Int), .int .i64 (Z : Int)] 93)) (fun i _ => s.size - (intOf i).toNat)
  case atStart => exact ⟨0, Nat.zero_le _, rfl, by rw [List.take_zero, putAt_nil]; exact H.out.below HB0.out, OthersKept.of_below HB0.out, HP0.out⟩
  case round =>
    obtain ⟨i, hi, rfl, hA, hK, hB⟩ := hrel
    have HA := Lib.hid hA
    have HK := Lib.hid hK
    have HB := Lib.hid hB
    by_cases hc : i < s.size
    · have hlen : (putAt a.B F (s.data.toList.take i)).length = a.B.length := putAt_len (by simp; omega)
      have c0 := hA.c0
      have p0 : wr.cell? ⟨w.heap.size, 0, none⟩ = some (.int .i64 (F : Int)) := by rw [blk_cell hB 0]; rfl
      have hrow : RowAt wr gB (putAt a.B F (s.data.toList.take i)) := hA.row
      have hfz := hrow.frozen (F + i) (by omega)
      have hcx := hrow.cell (F + i) (by omega)
      simp only at c0
      rw [hlen] at c0
      have hst := putAt_step a.B F i s.data.toList (by omega) (by omega)
      have hsi : s.data.toList[i]'(by omega) = s[i]'hc := by simp; rfl
      rw [hsi] at hst
      have HS := Lib.hid (hA.set_byte (F + i) (s[i]'hc) (by simp only; omega))
      have HT := Lib.hid hst
      generalize (((putAt a.B F (s.data.toList.take i))[F + i]'(by omega)).toNat : Int) = qq at hcx
      clear hA hK hB hrow hst
      have hwl : IntKind.i64.wrap ((F : Int) + (i : Int)) = ((F + i : Nat) : Int) := by rw [show (F : Int) + (i : Int) = ((F + i : Nat) : Int) by omega]; exact IntWalk.i64_in _ ⟨by omega, by omega⟩
      have hki : F + i < a.B.length := by omega
      generalize hkk : F + i = kk at *
      have hqx : ((kk : Nat) : Int) < (a.B.length : Int) := by omega
      have hqy : ((i : Nat) : Int) < (s.size : Int) := by omega
      have hqz : ¬ ((kk : Nat) : Int) < 0 := by omega
      have hqw : ¬ ((i : Nat) : Int) < 0 := by omega
      have n1 : g ≠ gB := hne
      have n2 : w.heap.size ≠ gB := by omega
      go_upto_region 8 with fail
      go_region_held3 (fun w' => w'.cell? ⟨g, 0, none⟩ = some (.slice (some ⟨gB, 0, none⟩) a.B.length cap) ∧ w'.cell? ⟨w.heap.size, 0, none⟩ = some (.int .i64 (F : Int))) (first | (with_reducible exact ⟨c0, p0⟩) | exact ⟨cell_set_far c0 n1, cell_set_far p0 n2⟩ | exact ⟨c0, p0⟩) (fail)
      all_goals go_wp2_with fail
      all_goals go_roundw
      case rel =>
        have hr2 := HS.out.below ((Below.refl _ _).drew)
        try simp only at hr2
        rw [HT.out] at hr2
        refine ⟨i + 1, by omega, by go_num, hr2, ?_, (set_keep HB.out (by omega))⟩
        exact HK.out.trans (OthersKept.of_grown (p := fun k => k = gB) (g := gB) (grown_step ((Below.refl _ _)) (grown_trans (grown_set (grown_refl _ gB)) (grown_below _ ((Below.refl _ _).drew)))) rfl) (fun _ _ h => .inr (.inl h))
      case measure => simp [intOf]; omega
    · obtain rfl : i = s.size := by omega
      have hfull : s.data.toList.take s.size = s.data.toList := List.take_of_length_le (by omega)
      rw [hfull] at hA
      have d0 := blk_cell hB 0
      have d1 := blk_cell hB 1
      have e0 := blk_frozen hB 0
      have e1 := blk_frozen hB 1
      have hw := hK.size
      have HA2 := Lib.hid (hA.other (k := w.heap.size) (grown_set (u := .int .i64 s.size) (i := 1) (grown_refl _ w.heap.size)) (by omega) (by omega) (by simp [Value.ownBlock]; omega))
      have HK2 := Lib.hid (hK.fresh (grown_set (u := .int .i64 s.size) (i := 1) (grown_refl _ w.heap.size)) (Nat.le_refl _))
      have HP2 := Lib.hid (blk_set hB 1 (.int .i64 s.size))
      clear hA hK hB HA HK HB c2
      go_upto_region 10 with fail
      clear d0 d1 e0 e1
      generalize wr.setCell ⟨w.heap.size, 1, none⟩ (.int .i64 (s.size : Nat)) = w7 at *
      have q0 : w7.cell? ⟨w.heap.size, 0, none⟩ = some (.int .i64 (F : Int)) := by rw [blk_cell HP2.out 0]; rfl
      have q1 : w7.cell? ⟨w.heap.size, 1, none⟩ = some (.int .i64 (s.size : Nat)) := by rw [blk_cell HP2.out 1]; rfl
      have c26 := HA2.out.c2
      have e26 := ext_cell c26 (cell_lt c26)
      have e0 := ext_cell q0 (cell_lt q0)
      have e1 := ext_cell q1 (cell_lt q1)
      clear c26 q0 q1
      have j1 : (0 : Int) ≤ (k : Int) := by omega
      have j2 : (k : Int) < (a.L.length : Int) := by omega
      refine wp_region_ext_tail w7.heap.size 7 (by kernel_rfl) (by kernel_rfl) ?_
      simp only [List.take_succ_cons, List.take_zero, List.drop_succ_cons, List.drop_zero]
      repeat (go_big_quiet_step (fail))
      refine wpQuiet_nil ?_
      rintro _ ⟨X, rfl⟩
      have hX := X.below
      generalize X.val = wx at hX
      have HAx := Lib.hid (HA2.out.below hX)
      have HKx := Lib.hid (HK2.out.then_below hX)
      obtain ⟨x0, x1, d0, d1, f0, f1⟩ := HAx.out.spot rfl hk
      have HR := Lib.hid (HAx.out.set_spot F s.size rfl hk)
      have HRk := Lib.hid (HKx.out.trans (kept_spot wx gd (k * 2) (k * 2 + 1) (.int .i64 (F : Nat)) (.int .i64 (s.size : Nat))) (fun k _ h => .inr (.inr (by rw [h]; rfl))))
      clear hX e26 e0 e1
      go_wp2_with fail
      go_ret
      exact ⟨rfl, HR.out, HRk.out⟩

set_option maxHeartbeats 4000000 in
set_option maxRecDepth 100000 in
theorem refSet_long (g gB cap gd cp k : Nat) (a : Ar) (s : ByteArray) (w : World) (hg : a.Good) (hk : k < a.L.length) (hsz : s.size ≤ 100000) (hs : a.L[k].2 < s.size) (h : RefAt w g gB cap (.slice (some ⟨gd, 0, none⟩) a.L.length cp) a) :
    Calls Try.prog 56 #[.pointer (some ⟨g, 0, none⟩), .int .i64 k, .string s] w fun e w' => e = .returned (.int .i64 (if a.free < (s.size : Int) - (a.L[k].2 : Int) then 4 else 0)) ∧ RefAt w' g gB cap (.slice (some ⟨gd, 0, none⟩) a.L.length cp) (if a.free < (s.size : Int) - (a.L[k].2 : Int) then a else a.long k s.data.toList) ∧ OthersKept w w' (refOwn g gB (.slice (some ⟨gd, 0, none⟩) a.L.length cp)) := by
  have hf := hg.fit
  have hn := hf.n
  have b1 := hf.l
  have b2 := hf.hi
  have hsl : s.data.toList.length = s.size := by simp
  have hin := (hg.inn _ (List.getElem_mem hk)).2
  have c2 := h.c2
  obtain ⟨_, cp', hcpe, hcp, hcm, _⟩ := dir_form h.dir
  obtain rfl : cp = cp' := by injection hcpe
  clear hcpe
  unfold maxLen at hcm
  have hne := h.ne
  have hfar := h.far gd rfl
  have hgl := blk_lt h.own
  have hgB := h.row.lt
  have hgd := (h.dir.lt gd rfl).2
  have d0 := dir_cell h.dir _ _ (places_from a.L k hk)
  have d1 := dir_cell h.dir _ _ (places_size a.L k hk)
  have FR := Lib.hid fun W hW => refFree_any g gB cap (.slice (some ⟨gd, 0, none⟩) a.L.length cp) a W hg hW
  have GP := Lib.hid fun W hW => refGap_any g gB cap (.slice (some ⟨gd, 0, none⟩) a.L.length cp) a W hf hW
  have LR := Lib.hid fun hfr => hg.long_room k hk s.size hfr
  have hgt : a.L.getD k (0, 0) = a.L[k] := by simp [List.getD_eq_getElem?_getD, hk]
  have HLG : Hid (a.long k s.data.toList = if a.gap < s.data.toList.length then ({ a with L := a.L.set k (a.L[k].1, 0) } : Ar).compact.stand k s.data.toList else a.stand k s.data.toList) := by
    show _ = _
    unfold Ar.long
    rw [hgt]
  have q0 : (0 : Int) ≤ (k : Int) := by omega
  have q1 : (k : Int) < (a.L.length : Int) := by omega
  clear hgt
  generalize a.L[k].1 = F at *
  generalize a.L[k].2 = Z at *
  have HB0 : Hid (Below w.heap.size w (w.alloc (.cells #[.int .i64 (F : Int), .int .i64 (Z : Int)] 93))) := (Below.refl _ _).alloc (Nat.le_refl _) _
  have HP0 : Hid ((w.alloc (.cells #[.int .i64 (F : Int), .int .i64 (Z : Int)] 93)).heap[w.heap.size]? = some (.cells #[.int .i64 (F : Int), .int .i64 (Z : Int)] 93)) := heap_alloc_new w _
  have H := Lib.hid h
  have HA0 := Lib.hid (h.below HB0.out)
  have m1 : IntKind.i64.wrap ((s.size : Int) - (Z : Int)) = (s.size : Int) - (Z : Int) := IntWalk.i64_in _ ⟨by omega, by omega⟩
  clear h
  go_enter Try.func56, Try.ntmps56
  go_upto_region 12 with fail
  clear d0 d1 c2
  generalize w.alloc (.cells #[.int .i64 (F : Int), .int .i64 (Z : Int)] 93) = w1 at *
  have p1 : w1.cell? ⟨w.heap.size, 1, none⟩ = some (.int .i64 (Z : Int)) := by rw [blk_cell HP0.out 1]; rfl
  have e1 := ext_cell p1 (cell_lt p1)
  clear p1
  refine wp_region_ext w1.heap.size (by kernel_rfl) (by kernel_rfl) ?_
  repeat (go_big_quiet_step ((go_at_call 61; exact ext_call _ (Nat.le_refl _) (FR.out _ (HA0.out.below (Ext.below _))))))
  refine wpQuiet_nil ?_
  rintro _ ⟨X, rfl⟩
  have hX := X.below
  generalize X.val = wx at hX
  have HAx := Lib.hid (HA0.out.below hX)
  have HBx := Lib.hid (below_then HB0.out hX)
  have HPx := Lib.hid ((hX.block _ (blk_lt HP0.out)).trans HP0.out)
  clear hX e1
  by_cases h2 : a.free < (s.size : Int) - (Z : Int)
  · have H2 := Lib.hid h2
    go_wp2_with fail
    go_ret
    exact ⟨rfl, HAx.out, OthersKept.of_below HBx.out⟩
  · have HL2 := Lib.hid (LR.out (by omega))
    have H2 := Lib.hid h2
    go_wp2_with fail
    refine (GP.out _ HAx.out).mono ?_
    rintro e w2 ⟨rfl, h3⟩
    have HA2 := Lib.hid (HAx.out.below h3)
    have HB2 := Lib.hid (below_then HBx.out h3)
    have HP2 := Lib.hid ((h3.block _ (blk_lt HPx.out)).trans HPx.out)
    have hw2 := Nat.le_trans HBx.out.size h3.size
    clear h3
    obtain ⟨c, hc⟩ : ∃ c, c = if a.gap < (s.size : Int) then ({ a with L := a.L.set k (F, 0) } : Ar).compact else a := ⟨_, rfl⟩
    have HC := Lib.hid hc
    clear hc
    go_upto_if 73 with fail
    go_cut [] (fun w' => RefAt w' g gB cap (.slice (some ⟨gd, 0, none⟩) a.L.length cp) c ∧ OthersKept w w' (refOwn g gB (.slice (some ⟨gd, 0, none⟩) a.L.length cp)))
    case first =>
      by_cases h4 : a.gap < (s.size : Int)
      · have hC : Hid (c = ({ a with L := a.L.set k (F, 0) } : Ar).compact) := by show _ = _; rw [HC.out, if_pos h4]
        have p1 := blk_cell HP2.out 1
        have f1 := blk_frozen HP2.out 1
        have HA3 := Lib.hid (HA2.out.other (k := w.heap.size) (grown_set (u := .int .i64 0) (i := 1) (grown_refl _ w.heap.size)) (by omega) (by omega) (by simp [Value.ownBlock]; omega))
        have HK3 := Lib.hid ((OthersKept.of_below (p := refOwn g gB (.slice (some ⟨gd, 0, none⟩) a.L.length cp)) HB2.out).fresh (grown_set (u := .int .i64 0) (i := 1) (grown_refl _ w.heap.size)) (Nat.le_refl _))
        have HP3 := Lib.hid (blk_set HP2.out 1 (.int .i64 0))
        go_upto_region 16 with fail
        clear p1 f1
        generalize w2.setCell ⟨w.heap.size, 1, none⟩ (.int .i64 0) = w7 at *
        have q0 : w7.cell? ⟨w.heap.size, 0, none⟩ = some (.int .i64 (F : Int)) := by rw [blk_cell HP3.out 0]; rfl
        have q1 : w7.cell? ⟨w.heap.size, 1, none⟩ = some (.int .i64 0) := by rw [blk_cell HP3.out 1]; rfl
        have c26 := HA3.out.c2
        have e26 := ext_cell c26 (cell_lt c26)
        have e0 := ext_cell q0 (cell_lt q0)
        have e1 := ext_cell q1 (cell_lt q1)
        clear c26 q0 q1
        have j1 : (0 : Int) ≤ (k : Int) := by omega
        have j2 : (k : Int) < (a.L.length : Int) := by omega
        refine wp_region_ext_tail w7.heap.size 7 (by kernel_rfl) (by kernel_rfl) ?_
        simp only [List.take_succ_cons, List.take_zero, List.drop_succ_cons, List.drop_zero]
        repeat (go_big_quiet_step (fail))
        refine wpQuiet_nil ?_
        rintro _ ⟨X, rfl⟩
        have hX := X.below
        generalize X.val = wy at hX
        have HAy := Lib.hid (HA3.out.below hX)
        have HKy := Lib.hid (HK3.out.then_below hX)
        obtain ⟨x0, x1, d0, d1, f0, f1⟩ := HAy.out.spot rfl hk
        have HR := Lib.hid (HAy.out.set_spot F 0 rfl hk)
        have HRk := Lib.hid (HKy.out.trans (kept_spot wy gd (k * 2) (k * 2 + 1) (.int .i64 (F : Nat)) (.int .i64 (0 : Nat))) (fun k _ h => .inr (.inr (by rw [h]; rfl))))
        clear hX e26 e0 e1
        go_wp2_with fail
        refine (refCompact_any g gB cap (.slice (some ⟨gd, 0, none⟩) a.L.length cp) { a with L := a.L.set k (F, 0) } _ HL2.out.1 HR.out).mono ?_
        rintro e w9 ⟨rfl, hA9, hK9⟩
        have HA9 := Lib.hid hA9
        have HK9 := Lib.hid (HRk.out.trans hK9 (fun _ _ h => h))
        clear hA9 hK9 d0 d1 f0 f1
        go_wp2_with fail
        go_meet
        rw [hC.out]
        exact ⟨HA9.out, HK9.out⟩
      · have hC : Hid (c = a) := by show _ = _; rw [HC.out, if_neg h4]
        go_wp2_with fail
        go_meet
        rw [hC.out]
        exact ⟨HA2.out, OthersKept.of_below HB2.out⟩
    case rest =>
      obtain ⟨hA, hK⟩ := hcut
      have HA := Lib.hid hA
      have HK := Lib.hid hK
      clear hA hK
      have hcg : c.Good ∧ c.L.length = a.L.length ∧ c.fin + s.size ≤ c.low ∧ a.long k s.data.toList = c.stand k s.data.toList := by
        have h2' := HL2.out
        rw [HC.out]
        by_cases h4 : a.gap < (s.size : Int)
        · rw [if_pos h4]
          refine ⟨h2'.2.1, ?_, h2'.2.2.2, ?_⟩
          · have := h2'.1.compact.2.1
            rw [this]
            simp
          · rw [HLG.out, if_pos (by rw [hsl]; exact h4)]
        · rw [if_neg h4]
          refine ⟨hg, rfl, ?_, ?_⟩
          · unfold Ar.gap at h4
            omega
          · rw [HLG.out, if_neg (by rw [hsl]; exact h4)]
      obtain ⟨hcg, hcl, hcr, hce⟩ := hcg
      have hcf := hcg.fit
      have HCE := Lib.hid hce
      have HCL : Hid ((c.below s.data.toList).L.length = a.L.length) := hcl
      have hcb := hcf.l
      have hch := hcf.hi
      obtain ⟨lo, hlo⟩ : ∃ x, x = c.low - s.size := ⟨_, rfl⟩
      have BL : Hid (∀ W, RefAt W g gB cap (.slice (some ⟨gd, 0, none⟩) a.L.length cp) c → Calls Try.prog 80 #[.pointer (some ⟨g, 0, none⟩), .string s] W fun e w' => e = .returned (.agg #[.int .i64 (lo : Int), .int .i64 (s.size : Nat)]) ∧ RefAt w' g gB cap (.slice (some ⟨gd, 0, none⟩) a.L.length cp) (c.below s.data.toList) ∧ OthersKept W w' (fun k => k = g ∨ k = gB)) := by
        show ∀ W, _
        intro W hW
        have := refBelow_any g gB cap (.slice (some ⟨gd, 0, none⟩) a.L.length cp) c s W hcf (by omega) hW
        rw [← hlo] at this
        exact this
      have Hlo := Lib.hid hlo
      clear hce hcl hlo
      go_wp2_with fail
      refine (BL.out _ HA.out).mono ?_
      rintro e w5 ⟨rfl, hA5, hK5⟩
      have HA5 := Lib.hid hA5
      have HK5 := Lib.hid (HK.out.trans hK5 (fun k _ h => by rcases h with h | h <;> simp [refOwn, h]))
      clear hA5 hK5
      have HB6 : Hid (Below w5.heap.size w5 (w5.alloc (.cells #[.int .i64 (lo : Int), .int .i64 (s.size : Nat)] 93))) := (Below.refl _ _).alloc (Nat.le_refl _) _
      have HA7 := Lib.hid (HA5.out.below HB6.out)
      have HK7 := Lib.hid (HK5.out.then_below HB6.out)
      have b7 := heap_alloc_new w5 (.cells #[.int .i64 (lo : Int), .int .i64 (s.size : Nat)] 93)
      clear HB6
      go_wp2_with fail
      generalize w5.alloc (.cells #[.int .i64 (lo : Int), .int .i64 (s.size : Nat)] 93) = w7 at *
      have q0 : w7.cell? ⟨w5.heap.size, 0, none⟩ = some (.int .i64 (lo : Int)) := by rw [blk_cell b7 0]; rfl
      have q1 : w7.cell? ⟨w5.heap.size, 1, none⟩ = some (.int .i64 (s.size : Nat)) := by rw [blk_cell b7 1]; rfl
      have c26 := HA7.out.c2
      have e26 := ext_cell c26 (cell_lt c26)
      have e0 := ext_cell q0 (cell_lt q0)
      have e1 := ext_cell q1 (cell_lt q1)
      clear c26 q0 q1 b7
      have j1 : (0 : Int) ≤ (k : Int) := by omega
      have j2 : (k : Int) < (a.L.length : Int) := by omega
      refine wp_region_ext_tail w7.heap.size 7 (by kernel_rfl) (by kernel_rfl) ?_
      simp only [List.take_succ_cons, List.take_zero, List.drop_succ_cons, List.drop_zero]
      repeat (go_big_quiet_step (fail))
      refine wpQuiet_nil ?_
      rintro _ ⟨X, rfl⟩
      have hX := X.below
      generalize X.val = wy at hX
      have HAy := Lib.hid (HA7.out.below hX)
      have HKy := Lib.hid (HK7.out.then_below hX)
      obtain ⟨x0, x1, d0, d1, f0, f1⟩ := HAy.out.spot HCL.out hk
      have HR := Lib.hid (HAy.out.set_spot lo s.size HCL.out hk)
      have HRk := Lib.hid (HKy.out.trans (kept_spot wy gd (k * 2) (k * 2 + 1) (.int .i64 (lo : Nat)) (.int .i64 (s.size : Nat))) (fun k _ h => .inr (.inr (by rw [h]; rfl))))
      clear hX e26 e0 e1
      go_wp2_with fail
      go_ret
      rw [HCE.out]
      have he : c.stand k s.data.toList = { c.below s.data.toList with L := (c.below s.data.toList).L.set k (lo, s.size) } := by
        unfold Ar.stand
        rw [hsl, Hlo.out]
        rfl
      rw [he]
      exact ⟨rfl, HR.out, HRk.out⟩

theorem refSet_any (g gB cap : Nat) (v : Value) (a : Ar) (k : Int) (s : ByteArray) (w : World) (hg : a.Good) (hs : s.size ≤ 100000) (h : RefAt w g gB cap v a) :
    Calls Try.prog 56 #[.pointer (some ⟨g, 0, none⟩), .int .i64 k, .string s] w fun e w' => e = .returned (.int .i64 (a.set k s.data.toList).2) ∧ RefThen w g gB cap v (a.set k s.data.toList).1 w' := by
  have hsl : s.data.toList.length = s.size := by simp
  have hn := hg.fit.n
  by_cases hk : 0 ≤ k ∧ k < (a.L.length : Int)
  · obtain ⟨k, rfl⟩ := Int.eq_ofNat_of_zero_le hk.1
    have hk' : k < a.L.length := by omega
    have hgd : a.L.getD k (0, 0) = a.L[k] := by simp [List.getD_eq_getElem?_getD, hk']
    rcases h.dir.2 with ⟨rfl, h0⟩ | ⟨gd, cp, cur, rfl, _⟩
    · omega
    · unfold Ar.set
      rw [if_neg (by omega), Int.toNat_natCast, hgd, hsl]
      by_cases h1 : s.size ≤ a.L[k].2
      · rw [if_pos h1]
        refine (refSet_short g gB cap gd cp k a s w hg hk' h1 h).mono ?_
        rintro e w' ⟨rfl, hA, hK⟩
        refine ⟨rfl, _, ?_, hK, fun x hx => .inl hx⟩
        unfold Ar.short
        rw [hgd, hsl]
        exact hA
      · rw [if_neg h1]
        refine (refSet_long g gB cap gd cp k a s w hg hk' hs (by omega) h).mono ?_
        by_cases h2 : a.free < (s.size : Int) - (a.L[k].2 : Int)
        · simp only [if_pos h2]
          rintro e w' ⟨rfl, hA, hK⟩
          exact ⟨rfl, _, hA, hK, fun x hx => .inl hx⟩
        · simp only [if_neg h2]
          rintro e w' ⟨rfl, hA, hK⟩
          exact ⟨rfl, _, hA, hK, fun x hx => .inl hx⟩
  · unfold Ar.set
    rw [if_pos hk]
    refine (refSet_no g gB cap v a k s w (by omega) hk h).mono ?_
    rintro e w' ⟨rfl, hb⟩
    exact ⟨rfl, RefThen.stay h hb⟩
theorem refRemove_any (g gB cap : Nat) (v : Value) (a : Ar) (k : Int) (w : World) (hg : a.Good) (h : RefAt w g gB cap v a) :
    Calls Try.prog 57 #[.pointer (some ⟨g, 0, none⟩), .int .i64 k] w fun e w' => e = .returned (.int .i64 (a.remove k).2) ∧ RefThen w g gB cap v (a.remove k).1 w' := by
  have hn := hg.fit.n
  by_cases hk : 0 ≤ k ∧ k < (a.L.length : Int)
  · obtain ⟨k, rfl⟩ := Int.eq_ofNat_of_zero_le hk.1
    have hr := hg.remove_yes k (by omega)
    rw [hr.1, hr.2.1]
    refine (refRemove_yes g gB cap v a k w hg.fit (by omega) h).mono ?_
    rintro e w' ⟨rfl, v', hA, hK, hF⟩
    exact ⟨rfl, v', hA, hK, fun x hx => .inr (hF x hx)⟩
  · unfold Ar.remove
    rw [if_pos hk]
    refine (refRemove_no g gB cap v a k w (by omega) hk h).mono ?_
    rintro e w' ⟨rfl, hb⟩
    exact ⟨rfl, RefThen.stay h hb⟩

end Go.Proofs.Ytlpfilpijiglpaa
