/- The contracts of row.EncodeEntry and of the document's answer for it.; The contract of row.DecodeEntry: which entry bytes are, in plain words.; The contract of the document's answer for which entry bytes are.; What is read of a row's bytes is the row; unlike rows have unlike bytes.; Which bytes are a row's: the two ways of telling are one.; The reference's Decode, where a number is missing or the mark is above one; What the reference's Decode has cut out is the row that the bytes are -/
import Derived.Test.YtjcfnfpilladfaaRows
import Derived.Test.YtjcfnfpilladfaaRowA
import Derived.Test.YtjcfnfpilladfaaPlains
import Derived.WalkKit
import Derived.WalkLawsBesides
import Derived.WalkSpells
import Derived.LoopTactic
import Derived.WalkMore
import Derived.LoopN
import Derived.Laws.BitsAllLaws
import Derived.Laws.IdiomStrings
import Derived.BigQuiet
import Derived.Deep.QuietTactic
import Derived.Deep.DeepCutAuto
import Derived.Deep.RegionHeld3
import Derived.Deep.DrawnRows
import Derived.Lib.Hide
import Derived.Outline
import Derived.Deep.DeepMust
import Derived.Handy
import Derived.Test.YtjcfnfpilladfaaRowDecode
namespace Go.Proofs.Ytjcfnfpilladfaa
open Go.RowKit
set_option linter.unusedVariables false
set_option linter.unusedSimpArgs false

set_option maxHeartbeats 1000000 in
set_option maxRecDepth 100000 in
theorem entEncode_yes (k : ByteArray) (c : Nat) (w : World) (hm : mayEnt k.size c = true) :
    Calls Try.prog 120 #[.agg #[.string k, .int .u32 c]] w fun e w' => e = .returned (.tuple #[.string ⟨(encEnt k.data.toList c).toArray⟩, .int .i64 0]) ∧ Below w.heap.size w w' := by
  rw [mayEnt_iff] at hm
  obtain ⟨h1, h2, h3⟩ := hm
  have n4 := fun W => number_4 c W (by omega)
  have z4 := be_str 4 c
  have hfin : Hid ((⟨(be 4 c).toArray⟩ : ByteArray) ++ k = ⟨(encEnt k.data.toList c).toArray⟩) := by
    show _ = _
    apply bytes_ext
    simp only [ByteArray.data_append, Array.toList_append, encEnt]
  generalize (⟨(be 4 c).toArray⟩ : ByteArray) = x4 at n4 z4 hfin
  have y4 := Nat.le_of_eq z4
  have N4 := Lib.hid n4
  clear n4 z4
  have hceq : ((c : Int) == 0) = false := by simp; omega
  go_enter Try.func120, Try.ntmps120
  go_upto_region 3 with fail
  have c0 : (w.alloc (.cells #[.string k, .int .u32 c] 93)).cell? ⟨w.heap.size, 0, none⟩ = some (.string k) := by rw [World.cell?_alloc_mark]; rfl
  have c1 : (w.alloc (.cells #[.string k, .int .u32 c] 93)).cell? ⟨w.heap.size, 1, none⟩ = some (.int .u32 c) := by rw [World.cell?_alloc_mark]; rfl
  have hb : Below w.heap.size w (w.alloc (.cells #[.string k, .int .u32 c] 93)) := (Below.refl _ _).alloc (Nat.le_refl _) _
  have hg : w.heap.size < (w.alloc (.cells #[.string k, .int .u32 c] 93)).heap.size := by simp
  generalize w.alloc (.cells #[.string k, .int .u32 c] 93) = w1 at c0 c1 hb hg ⊢
  have e0 := ext_cell c0 hg
  have e1 := ext_cell c1 hg
  refine wp_region_ext w1.heap.size (by kernel_rfl) (by kernel_rfl) ?_
  repeat (go_big_quiet_step ((go_at_call 140; exact ext_call _ (Nat.le_refl _) (N4.out _))))
  refine wpQuiet_nil ?_
  rintro _ ⟨x, rfl⟩
  have hx := hb.trans (x.below.mono (Nat.le_of_lt hg))
  generalize x.val = wz at hx ⊢
  clear e0 e1 c0 c1
  go_wp2_with fail
  go_ret2
  exact ⟨ret_str2 hfin.out, hx⟩

set_option maxHeartbeats 1000000 in
theorem entEncode_no (k : ByteArray) (c : Nat) (w : World) (hk : k.size ≤ maxLen) (hm : mayEnt k.size c = false) :
    Calls Try.prog 120 #[.agg #[.string k, .int .u32 c]] w fun e w' => e = .returned (.tuple #[.string ⟨#[]⟩, .int .i64 2]) ∧ Below w.heap.size w w' := by
  have hm' : ¬ (k.size ≤ 48 ∧ 1 ≤ c ∧ c ≤ 1024) := by rw [← mayEnt_iff, hm]; simp
  clear hm
  unfold maxLen at hk
  by_cases h1 : k.size ≤ 48
  · by_cases h2 : c = 0
    · subst h2
      go_enter Try.func120, Try.ntmps120
      go_wp2_with fail
      go_ret2
      exact ⟨rfl, (Below.refl _ _).alloc (Nat.le_refl _) _⟩
    · have h3 : 1024 < c := by omega
      have hceq : ((c : Int) == 0) = false := by simp; omega
      clear hm'
      go_enter Try.func120, Try.ntmps120
      go_wp2_with fail
      go_ret2
      exact ⟨rfl, (Below.refl _ _).alloc (Nat.le_refl _) _⟩
  · clear hm'
    go_enter Try.func120, Try.ntmps120
    go_wp2_with fail
    go_ret2
    exact ⟨rfl, (Below.refl _ _).alloc (Nat.le_refl _) _⟩

set_option maxHeartbeats 1000000 in
set_option maxRecDepth 100000 in
theorem refEntEncode_yes (k : ByteArray) (c : Nat) (w : World) (hm : mayEnt k.size c = true) :
    Calls Try.prog 90 #[.agg #[.string k, .int .u32 c]] w fun e w' => e = .returned (.tuple #[.string ⟨(encEnt k.data.toList c).toArray⟩, .int .i64 0]) ∧ Below w.heap.size w w' := by
  rw [mayEnt_iff] at hm
  obtain ⟨h1, h2, h3⟩ := hm
  have n4 := fun W => refNum_4 c W (by omega)
  have z4 := be_str 4 c
  have hfin : Hid ((⟨(be 4 c).toArray⟩ : ByteArray) ++ k = ⟨(encEnt k.data.toList c).toArray⟩) := by
    show _ = _
    apply bytes_ext
    simp only [ByteArray.data_append, Array.toList_append, encEnt]
  generalize (⟨(be 4 c).toArray⟩ : ByteArray) = x4 at n4 z4 hfin
  have y4 := Nat.le_of_eq z4
  have N4 := Lib.hid n4
  clear n4 z4
  have hceq : ((c : Int) == 0) = false := by simp; omega
  go_enter Try.func90, Try.ntmps90
  go_upto_region 3 with fail
  have c0 : (w.alloc (.cells #[.string k, .int .u32 c] 93)).cell? ⟨w.heap.size, 0, none⟩ = some (.string k) := by rw [World.cell?_alloc_mark]; rfl
  have c1 : (w.alloc (.cells #[.string k, .int .u32 c] 93)).cell? ⟨w.heap.size, 1, none⟩ = some (.int .u32 c) := by rw [World.cell?_alloc_mark]; rfl
  have hb : Below w.heap.size w (w.alloc (.cells #[.string k, .int .u32 c] 93)) := (Below.refl _ _).alloc (Nat.le_refl _) _
  have hg : w.heap.size < (w.alloc (.cells #[.string k, .int .u32 c] 93)).heap.size := by simp
  generalize w.alloc (.cells #[.string k, .int .u32 c] 93) = w1 at c0 c1 hb hg ⊢
  have e0 := ext_cell c0 hg
  have e1 := ext_cell c1 hg
  refine wp_region_ext w1.heap.size (by kernel_rfl) (by kernel_rfl) ?_
  repeat (go_big_quiet_step ((go_at_call 89; exact ext_call _ (Nat.le_refl _) (N4.out _))))
  refine wpQuiet_nil ?_
  rintro _ ⟨x, rfl⟩
  have hx := hb.trans (x.below.mono (Nat.le_of_lt hg))
  generalize x.val = wz at hx ⊢
  clear e0 e1 c0 c1
  go_wp2_with fail
  go_ret2
  exact ⟨ret_str2 hfin.out, hx⟩

set_option maxHeartbeats 1000000 in
theorem refEntEncode_no (k : ByteArray) (c : Nat) (w : World) (hk : k.size ≤ maxLen) (hm : mayEnt k.size c = false) :
    Calls Try.prog 90 #[.agg #[.string k, .int .u32 c]] w fun e w' => e = .returned (.tuple #[.string ⟨#[]⟩, .int .i64 2]) ∧ Below w.heap.size w w' := by
  have hm' : ¬ (k.size ≤ 48 ∧ 1 ≤ c ∧ c ≤ 1024) := by rw [← mayEnt_iff, hm]; simp
  clear hm
  unfold maxLen at hk
  by_cases h1 : k.size ≤ 48
  · by_cases h2 : c = 0
    · subst h2
      go_enter Try.func90, Try.ntmps90
      go_wp2_with fail
      go_ret2
      exact ⟨rfl, (Below.refl _ _).alloc (Nat.le_refl _) _⟩
    · have h3 : 1024 < c := by omega
      have hceq : ((c : Int) == 0) = false := by simp; omega
      clear hm'
      go_enter Try.func90, Try.ntmps90
      go_wp2_with fail
      go_ret2
      exact ⟨rfl, (Below.refl _ _).alloc (Nat.le_refl _) _⟩
  · clear hm'
    go_enter Try.func90, Try.ntmps90
    go_wp2_with fail
    go_ret2
    exact ⟨rfl, (Below.refl _ _).alloc (Nat.le_refl _) _⟩

end Go.Proofs.Ytjcfnfpilladfaa

namespace Go.Proofs.Ytjcfnfpilladfaa
open Go.RowKit
set_option linter.unusedVariables false
set_option linter.unusedSimpArgs false

/-- What row.DecodeEntry returns. -/
def decEntV (l : List UInt8) : Value :=
  if decEntOk l then .tuple #[.agg #[.string ⟨(l.drop 4).toArray⟩, .int .u32 (rdNum l 0 4)], .int .i64 0] else .tuple #[.agg #[.string ⟨#[]⟩, .int .u32 0], .int .i64 7]

theorem ent_res {w : World} {g : Nat} {t : TypeId} {a0 a1 : Value} (h : w.heap[g]? = some (.cells #[a0, a1] t (0, 0))) (v0 v1 : Value) :
    ((w.setCell ⟨g, 0, none⟩ v0).setCell ⟨g, 1, none⟩ v1).cell? ⟨g, 0, none⟩ = some v0 ∧ ((w.setCell ⟨g, 0, none⟩ v0).setCell ⟨g, 1, none⟩ v1).cell? ⟨g, 1, none⟩ = some v1 := by
  have hb := blk_set (blk_set h 0 v0) 1 v1
  simp only [List.setIfInBounds_toArray, List.set_cons_zero, List.set_cons_succ] at hb
  generalize (w.setCell ⟨g, 0, none⟩ v0).setCell ⟨g, 1, none⟩ v1 = W at hb ⊢
  refine ⟨?_, ?_⟩ <;> (rw [blk_cell hb]; rfl)

set_option maxHeartbeats 2000000 in
set_option maxRecDepth 100000 in
theorem entDecode_any (s : ByteArray) (w : World) (hs : s.size ≤ 1000000) :
    Calls Try.prog 86 #[.string s] w fun e w' => e = .returned (decEntV s.data.toList) ∧ Below w.heap.size w w' := by
  have hsm : s.size ≤ maxLen := by unfold maxLen; omega
  have hlen : s.data.toList.length = s.size := by simp
  have l4 := rdNum_lt s.data.toList 0 4
  have hO : Hid (decEntOk s.data.toList = (decide (4 ≤ s.size) && mayEnt (s.size - 4) (rdNum s.data.toList 0 4))) := by show _ = _; unfold decEntOk; rw [hlen]
  have hD : Hid (decEntV s.data.toList = if decEntOk s.data.toList then .tuple #[.agg #[.string ⟨(s.data.toList.drop 4).toArray⟩, .int .u32 (rdNum s.data.toList 0 4)], .int .i64 0] else .tuple #[.agg #[.string ⟨#[]⟩, .int .u32 0], .int .i64 7]) := rfl
  have C := Lib.hid fun W is hW => num_any s (w.heap.size + 1) 0 4 is W hsm (by omega) (by omega) (by omega) hW
  generalize rdNum s.data.toList 0 4 = n at *
  simp only [Nat.reducePow] at l4
  have wn : IntKind.u32.wrap (n : Int) = n := IntWalk.u32_in _ ⟨by omega, by omega⟩
  have bR := heap_alloc_new w (.cells #[.string ⟨#[]⟩, .int .u32 0] 93)
  have bD : RdIn ((w.alloc (.cells #[.string ⟨#[]⟩, .int .u32 0] 93)).alloc (.cells #[.string s, .int .i64 0, .bool true] 163)) (w.heap.size + 1) s 0 true := by
    have := heap_alloc_new (w.alloc (.cells #[.string ⟨#[]⟩, .int .u32 0] 93)) (.cells #[.string s, .int .i64 0, .bool true] 163)
    unfold RdIn
    simpa using this
  have bR2 := heap_keep (o := .cells #[.string s, .int .i64 0, .bool true] 163) bR
  have HD0 := Lib.hid bD
  have HR0 := Lib.hid bR2
  clear bR bD bR2 hlen
  go_enter Try.func86, Try.ntmps86
  go_wp2_with fail
  refine (C.out _ _ HD0.out).mono ?_
  rintro e w1 ⟨rfl, hr1, hg1⟩
  have bR1 := (hg1.block _ (blk_lt HR0.out) (by simp)).trans HR0.out
  have hw1 : w.heap.size + 1 < w1.heap.size := blk_lt hr1
  have hbl1 : Below w.heap.size w w1 := (((Below.refl _ _).alloc (Nat.le_refl _) _).alloc (by simp) _).grown hg1 (by simp; omega) (fun k hk => by injection hk with hk; omega)
  by_cases h4 : 4 ≤ s.size
  · have hd : Hid (decide (0 + 4 ≤ s.size) = true) := by show _ = _; simpa using h4
    rw [hd.out] at hr1
    have d1 := blk_cell hr1 1
    have d2 := blk_cell hr1 2
    have hfin : Hid ((⟨(s.data.toList.drop 4).toArray⟩ : ByteArray) = s.extract 4 s.size) := by
      show _ = _
      apply bytes_ext
      rw [Lib.extract_data]
      exact (List.take_of_length_le (by simp)).symm
    have hsz4 : (s.extract 4 s.size).size = s.size - 4 := by simp
    have hO2 : Hid (decEntOk s.data.toList = mayEnt (s.extract 4 s.size).size n) := by
      show _ = _
      rw [hO.out, hsz4, decide_eq_true (by omega : 4 ≤ s.size), Bool.true_and]
    have bX2 := heap_alloc_new w1 (.cells #[.string (s.extract 4 s.size), .int .u32 n] 93)
    have bR2 := heap_keep (o := .cells #[.string (s.extract 4 s.size), .int .u32 n] 93) bR1
    have hbX : Below w.heap.size w1 (w1.alloc (.cells #[.string (s.extract 4 s.size), .int .u32 n] 93)) := (Below.refl _ _).alloc (by omega) _
    cases hm : mayEnt (s.extract 4 s.size).size n with
    | false =>
      have E := Lib.hid fun W => entEncode_no (s.extract 4 s.size) n W (by rw [hsz4]; omega) hm
      have hOf : Hid (decEntOk s.data.toList = false) := by show _ = _; rw [hO2.out, hm]
      clear hm hsz4 hO2 hO hr1 bR1 hg1
      go_wp2_with fail
      refine (E.out _).mono ?_
      rintro e w2 ⟨rfl, hb2⟩
      have bR3 := (hb2.block _ (blk_lt bR2)).trans bR2
      have bX3 := (hb2.block _ (blk_lt bX2)).trans bX2
      have hbl := (hbl1.trans hbX).trans (hb2.mono (by simp; omega))
      have x0 := blk_cell bX3 0
      have x1 := blk_cell bX3 1
      have r0 := blk_cell bR3 0
      have r1 := blk_cell bR3 1
      have g0 := blk_frozen bR3 0
      have g1 := blk_frozen bR3 1
      have Br := Lib.hid bR3
      clear bR3 bX3 bR2 bX2 hb2
      go_wp2_with fail
      have q := ent_res Br.out (.string ⟨#[]⟩) (.int .u32 0)
      obtain ⟨q0, q1⟩ := q
      refine bodyPost_ret (v := .tuple #[.agg #[.string ⟨#[]⟩, .int .u32 0], .int .i64 7]) (by simp [results, Try.results86, go_sem, q0, q1]) rfl ⟨?_, (hbl.setCell (Nat.le_refl _) _).setCell (Nat.le_refl _) _⟩
      rw [hD.out, hOf.out]
      rfl
    | true =>
      have E := Lib.hid fun W => entEncode_yes (s.extract 4 s.size) n W hm
      have hOf : Hid (decEntOk s.data.toList = true) := by show _ = _; rw [hO2.out, hm]
      clear hm hsz4 hO2 hO hr1 bR1 hg1
      go_wp2_with fail
      refine (E.out _).mono ?_
      rintro e w2 ⟨rfl, hb2⟩
      have bR3 := (hb2.block _ (blk_lt bR2)).trans bR2
      have bX3 := (hb2.block _ (blk_lt bX2)).trans bX2
      have hbl := (hbl1.trans hbX).trans (hb2.mono (by simp; omega))
      have x0 := blk_cell bX3 0
      have x1 := blk_cell bX3 1
      have r0 := blk_cell bR3 0
      have r1 := blk_cell bR3 1
      have g0 := blk_frozen bR3 0
      have g1 := blk_frozen bR3 1
      have Br := Lib.hid bR3
      clear bR3 bX3 bR2 bX2 hb2
      go_wp2_with fail
      have q := ent_res Br.out (.string (s.extract 4 s.size)) (.int .u32 n)
      obtain ⟨q0, q1⟩ := q
      refine bodyPost_ret (v := .tuple #[.agg #[.string (s.extract 4 s.size), .int .u32 n], .int .i64 0]) (by simp [results, Try.results86, go_sem, q0, q1]) rfl ⟨?_, (hbl.setCell (Nat.le_refl _) _).setCell (Nat.le_refl _) _⟩
      rw [hD.out, hOf.out, hfin.out]
      rfl
  · have hd : Hid (decide (0 + 4 ≤ s.size) = false) := by show _ = _; simp; omega
    rw [hd.out] at hr1
    have d2 := blk_cell hr1 2
    have hOf : Hid (decEntOk s.data.toList = false) := by show _ = _; rw [hO.out, decide_eq_false h4, Bool.false_and]
    have r0 := blk_cell bR1 0
    have r1 := blk_cell bR1 1
    have g0 := blk_frozen bR1 0
    have g1 := blk_frozen bR1 1
    have bR2 := Lib.hid bR1
    have hw1' : w.heap.size < w1.heap.size := by omega
    clear hO hr1 bR1 hg1 C
    go_wp2_with fail
    have q := ent_res bR2.out (.string ⟨#[]⟩) (.int .u32 0)
    obtain ⟨q0, q1⟩ := q
    have hsz : w.heap.size < ((w1.setCell ⟨w.heap.size, 0, none⟩ (.string ⟨#[]⟩)).setCell ⟨w.heap.size, 1, none⟩ (.int .u32 0)).heap.size := by simpa [World.setCell] using hw1'
    have q0' := (World.cell?_alloc_lt _ (.cells #[.string ⟨#[]⟩, .int .u32 n] 93) ⟨w.heap.size, 0, none⟩ hsz).trans q0
    have q1' := (World.cell?_alloc_lt _ (.cells #[.string ⟨#[]⟩, .int .u32 n] 93) ⟨w.heap.size, 1, none⟩ hsz).trans q1
    refine bodyPost_ret (v := .tuple #[.agg #[.string ⟨#[]⟩, .int .u32 0], .int .i64 7]) (by simp [results, Try.results86, go_sem, q0', q1']) rfl ⟨?_, ((hbl1.setCell (Nat.le_refl _) _).setCell (Nat.le_refl _) _).alloc (Nat.le_of_lt hsz) _⟩
    rw [hD.out, hOf.out]
    rfl

end Go.Proofs.Ytjcfnfpilladfaa

namespace Go.Proofs.Ytjcfnfpilladfaa
open Go.RowKit
set_option linter.unusedVariables false
set_option linter.unusedSimpArgs false

set_option maxHeartbeats 1000000 in
set_option maxRecDepth 100000 in
theorem refEntDecode_any (s : ByteArray) (w : World) (hs : s.size ≤ 1000000) :
    Calls Try.prog 87 #[.string s] w fun e w' => e = .returned (decEntV s.data.toList) ∧ Below w.heap.size w w' := by
  have hsm : s.size ≤ maxLen := by unfold maxLen; omega
  have hlen : s.data.toList.length = s.size := by simp
  have l4 := rdNum_lt s.data.toList 0 4
  have hO : Hid (decEntOk s.data.toList = (decide (4 ≤ s.size) && mayEnt (s.size - 4) (rdNum s.data.toList 0 4))) := by show _ = _; unfold decEntOk; rw [hlen]
  have hD : Hid (decEntV s.data.toList = if decEntOk s.data.toList then .tuple #[.agg #[.string ⟨(s.data.toList.drop 4).toArray⟩, .int .u32 (rdNum s.data.toList 0 4)], .int .i64 0] else .tuple #[.agg #[.string ⟨#[]⟩, .int .u32 0], .int .i64 7]) := rfl
  have bR := Lib.hid (heap_alloc_new w (.cells #[.string ⟨#[]⟩, .int .u32 0] 93))
  by_cases h4 : 4 ≤ s.size
  · have hn : rdNum s.data.toList 0 4 = un ((s.data.toList.drop 0).take 4) := by unfold rdNum; rw [if_pos (by rw [hlen]; omega)]
    have c := fun W => refGet_yes s 0 4 W hsm (by omega) (by omega) (by omega)
    rw [← hn] at c
    clear hn hlen
    generalize rdNum s.data.toList 0 4 = n at *
    simp only [Nat.reducePow] at l4
    have C := Lib.hid c
    have wn : IntKind.u32.wrap (n : Int) = n := IntWalk.u32_in _ ⟨by omega, by omega⟩
    have hfin : Hid ((⟨(s.data.toList.drop 4).toArray⟩ : ByteArray) = s.extract 4 s.size) := by
      show _ = _
      apply bytes_ext
      rw [Lib.extract_data]
      exact (List.take_of_length_le (by simp)).symm
    have hm0 : Hid (decEntOk s.data.toList = mayEnt (s.size - 4) n) := by show _ = _; rw [hO.out, decide_eq_true h4, Bool.true_and]
    clear c hO
    by_cases hc : 1 ≤ n ∧ n ≤ 1024 ∧ s.size ≤ 52
    · obtain ⟨h1, h2, h3⟩ := hc
      have hOf : Hid (decEntOk s.data.toList = true) := by show _ = _; rw [hm0.out, mayEnt_iff]; omega
      have e0 : ((n : Int) == 0) = false := by simp; omega
      clear hm0
      go_enter Try.func87, Try.ntmps87
      go_wp2_with fail
      refine (C.out _).mono ?_
      rintro e w1 ⟨rfl, rfl⟩
      go_wp2_with fail
      refine bodyPost_ret (v := .tuple #[.agg #[.string (s.extract 4 s.size), .int .u32 n], .int .i64 0]) (by simp [results, Try.results87, go_sem]) rfl ⟨?_, (Below.refl _ _).alloc (Nat.le_refl _) _⟩
      rw [hD.out, hOf.out, hfin.out]
      rfl
    · have hOf : Hid (decEntOk s.data.toList = false) := by
        show _ = _
        rw [hm0.out, ← Bool.not_eq_true, mayEnt_iff]
        omega
      clear hm0
      by_cases h1 : n = 0
      · subst h1
        go_enter Try.func87, Try.ntmps87
        go_wp2_with fail
        refine (C.out _).mono ?_
        rintro e w1 ⟨rfl, rfl⟩
        go_wp2_with fail
        refine bodyPost_ret (v := .tuple #[.agg #[.string ⟨#[]⟩, .int .u32 0], .int .i64 7]) (by simp [results, Try.results87, go_sem]) rfl ⟨?_, (Below.refl _ _).alloc (Nat.le_refl _) _⟩
        rw [hD.out, hOf.out]
        rfl
      · have e0 : ((n : Int) == 0) = false := by simp; omega
        by_cases h2 : 1024 < n
        · clear hc
          go_enter Try.func87, Try.ntmps87
          go_wp2_with fail
          refine (C.out _).mono ?_
          rintro e w1 ⟨rfl, rfl⟩
          go_wp2_with fail
          refine bodyPost_ret (v := .tuple #[.agg #[.string ⟨#[]⟩, .int .u32 0], .int .i64 7]) (by simp [results, Try.results87, go_sem]) rfl ⟨?_, (Below.refl _ _).alloc (Nat.le_refl _) _⟩
          rw [hD.out, hOf.out]
          rfl
        · have h3 : 52 < s.size := by omega
          clear hc
          go_enter Try.func87, Try.ntmps87
          go_wp2_with fail
          refine (C.out _).mono ?_
          rintro e w1 ⟨rfl, rfl⟩
          go_wp2_with fail
          refine bodyPost_ret (v := .tuple #[.agg #[.string ⟨#[]⟩, .int .u32 0], .int .i64 7]) (by simp [results, Try.results87, go_sem]) rfl ⟨?_, (Below.refl _ _).alloc (Nat.le_refl _) _⟩
          rw [hD.out, hOf.out]
          rfl
  · have C := Lib.hid fun W => refGet_no s 0 4 W hsm (by omega) (by omega) (by omega)
    have hOf : Hid (decEntOk s.data.toList = false) := by show _ = _; rw [hO.out, decide_eq_false h4, Bool.false_and]
    clear hO hlen
    go_enter Try.func87, Try.ntmps87
    go_wp2_with fail
    refine (C.out _).mono ?_
    rintro e w1 ⟨rfl, rfl⟩
    go_wp2_with fail
    refine bodyPost_ret (v := .tuple #[.agg #[.string ⟨#[]⟩, .int .u32 0], .int .i64 7]) (by simp [results, Try.results87, go_sem]) rfl ⟨?_, (Below.refl _ _).alloc (Nat.le_refl _) _⟩
    rw [hD.out, hOf.out]
    rfl

end Go.Proofs.Ytjcfnfpilladfaa

namespace Go.Proofs.Ytjcfnfpilladfaa
open Go.RowKit
set_option linter.unusedVariables false
set_option linter.unusedSimpArgs false

theorem rdNum_mid {l a b c : List UInt8} {i k : Nat} (h : l = a ++ (b ++ c)) (ha : a.length = i) (hb : b.length = k) : rdNum l i k = un b := by
  subst h ha hb
  unfold rdNum
  rw [if_pos (by simp), List.drop_left, List.take_left]

theorem rdText_mid {l a b c : List UInt8} {i k : Nat} (h : l = a ++ (b ++ c)) (ha : a.length = i) (hb : b.length = k) : rdText l i k = b := by
  subst h ha hb
  unfold rdText
  rw [if_pos (by simp), List.drop_left, List.take_left]

section
variable (k v : List UInt8) (m : Bool) (t p s d : Nat)
theorem back_mark : rdNum (encRow k v m t p s d) 0 1 = if m then 1 else 0 := by
  rw [rdNum_mid (i := 0) (k := 1) (a := []) (b := [if m then 1 else 0]) (c := be 8 t ++ be 4 p ++ be 2 s ++ be 1 k.length ++ k ++ be 1 v.length ++ v ++ List.replicate d 0) (by unfold encRow; simp) rfl rfl]
  cases m <;> rfl
theorem back_t (ht : t < 256 ^ 8) : rdNum (encRow k v m t p s d) 1 8 = t := by
  rw [rdNum_mid (i := 1) (k := 8) (a := [if m then 1 else 0]) (b := be 8 t) (c := be 4 p ++ be 2 s ++ be 1 k.length ++ k ++ be 1 v.length ++ v ++ List.replicate d 0) (by unfold encRow; simp) rfl (be_length _ _)]
  exact un_be_fits 8 t ht
theorem back_p (hp : p < 256 ^ 4) : rdNum (encRow k v m t p s d) 9 4 = p := by
  rw [rdNum_mid (a := (if m then 1 else 0) :: be 8 t) (b := be 4 p) (c := be 2 s ++ be 1 k.length ++ k ++ be 1 v.length ++ v ++ List.replicate d 0) (by unfold encRow; simp) (by simp [be_length]) (be_length _ _)]
  exact un_be_fits 4 p hp
theorem back_s (hs : s < 256 ^ 2) : rdNum (encRow k v m t p s d) 13 2 = s := by
  rw [rdNum_mid (a := (if m then 1 else 0) :: (be 8 t ++ be 4 p)) (b := be 2 s) (c := be 1 k.length ++ k ++ be 1 v.length ++ v ++ List.replicate d 0) (by unfold encRow; simp) (by simp [be_length]) (be_length _ _)]
  exact un_be_fits 2 s hs
theorem back_kn (hk : k.length < 256) : dKn (encRow k v m t p s d) = k.length := by
  unfold dKn
  rw [rdNum_mid (a := (if m then 1 else 0) :: (be 8 t ++ be 4 p ++ be 2 s)) (b := be 1 k.length) (c := k ++ be 1 v.length ++ v ++ List.replicate d 0) (by unfold encRow; simp) (by simp [be_length]) (be_length _ _)]
  exact un_be_fits 1 _ (by simpa using hk)
theorem back_k (hk : k.length < 256) : dK (encRow k v m t p s d) = k := by
  unfold dK
  rw [back_kn k v m t p s d hk]
  exact rdText_mid (a := (if m then 1 else 0) :: (be 8 t ++ be 4 p ++ be 2 s ++ be 1 k.length)) (c := be 1 v.length ++ v ++ List.replicate d 0) (by unfold encRow; simp) (by simp [be_length]) rfl
theorem back_vn (hk : k.length < 256) (hv : v.length < 256) : dVn (encRow k v m t p s d) = v.length := by
  unfold dVn dA
  rw [back_kn k v m t p s d hk, rdNum_mid (a := (if m then 1 else 0) :: (be 8 t ++ be 4 p ++ be 2 s ++ be 1 k.length ++ k)) (b := be 1 v.length) (c := v ++ List.replicate d 0) (by unfold encRow; simp) (by simp [be_length]; omega) (be_length _ _)]
  exact un_be_fits 1 _ (by simpa using hv)
theorem back_v (hk : k.length < 256) (hv : v.length < 256) : dV (encRow k v m t p s d) = v := by
  unfold dV
  rw [back_vn k v m t p s d hk hv]
  unfold dA
  rw [back_kn k v m t p s d hk]
  exact rdText_mid (a := (if m then 1 else 0) :: (be 8 t ++ be 4 p ++ be 2 s ++ be 1 k.length ++ k ++ be 1 v.length)) (c := List.replicate d 0) (by unfold encRow; simp) (by simp [be_length]; omega) rfl
theorem back_pad (hk : k.length < 256) (hv : v.length < 256) : dPad (encRow k v m t p s d) = (d : Int) := by
  unfold dPad dE
  rw [back_vn k v m t p s d hk hv]
  unfold dA
  rw [back_kn k v m t p s d hk]
  have : (encRow k v m t p s d).length = 17 + k.length + v.length + d := by
    unfold encRow
    simp [be_length]
    omega
  rw [this]
  omega

theorem decV_encRow (ht : t < 256 ^ 8) (hs : s < 256 ^ 2) (hm : mayRow k.length v.length p s (d : Int) = true) :
    decV (encRow k v m t p s d) = .tuple #[.agg #[.string ⟨k.toArray⟩, .bool m, .int .u64 t, .int .u32 p, .int .u16 s, .string ⟨v.toArray⟩, .int .i64 d], .int .i64 0] := by
  have h := mayRow_iff.1 hm
  have hk : k.length < 256 := by omega
  have hv : v.length < 256 := by omega
  have hmark : decide (0 < rdNum (encRow k v m t p s d) 0 1) = m := by rw [back_mark]; cases m <;> rfl
  have hlen : (encRow k v m t p s d).length = 17 + k.length + v.length + d := by
    unfold encRow
    simp [be_length]
    omega
  have hA : dA (encRow k v m t p s d) = 16 + k.length := by unfold dA; rw [back_kn k v m t p s d hk]
  have hE : dE (encRow k v m t p s d) = 17 + k.length + v.length := by unfold dE; rw [hA, back_vn k v m t p s d hk hv]; omega
  have hIs : dIs (encRow k v m t p s d) = true := by
    unfold dIs rd4
    rw [hA, hE, hlen]
    simp
    omega
  have hMay : decMay (encRow k v m t p s d) = true := by
    unfold decMay
    rw [back_k k v m t p s d hk, back_v k v m t p s d hk hv, back_p k v m t p s d (by omega), back_s k v m t p s d hs, back_pad k v m t p s d hk hv]
    exact hm
  have hEnc : decEnc (encRow k v m t p s d) = encRow k v m t p s d := by
    unfold decEnc
    rw [back_k k v m t p s d hk, back_v k v m t p s d hk hv, back_p k v m t p s d (by omega), back_s k v m t p s d hs, back_pad k v m t p s d hk hv, hmark, back_t k v m t p s d ht]
    rfl
  have hOk : decOk (encRow k v m t p s d) = true := by
    unfold decOk
    rw [hIs, hMay, hEnc]
    simp
  unfold decV
  rw [hOk, back_k k v m t p s d hk, back_v k v m t p s d hk hv, back_p k v m t p s d (by omega), back_s k v m t p s d hs, back_pad k v m t p s d hk hv, hmark, back_t k v m t p s d ht]
  rfl
end

/-- Whether two rows are the same, as the machine tells it. -/
def sameRow (k v k' v' : ByteArray) (m m' : Bool) (t t' p p' s s' d d' : Int) : Bool :=
  k.toList == k'.toList && (m == m' && (t == t' && ((p == p' && s == s') && (v.toList == v'.toList && d == d'))))

theorem encRow_eq (k v k' v' : ByteArray) (m m' : Bool) (t t' p p' s s' d d' : Nat) (ht : t < 256 ^ 8) (ht' : t' < 256 ^ 8) (hs : s < 256 ^ 2) (hs' : s' < 256 ^ 2) (h : mayRow k.size v.size p s (d : Int) = true) (h' : mayRow k'.size v'.size p' s' (d' : Int) = true) :
    ((⟨(encRow k.data.toList v.data.toList m t p s d).toArray⟩ : ByteArray).toList == (⟨(encRow k'.data.toList v'.data.toList m' t' p' s' d').toArray⟩ : ByteArray).toList) = sameRow k v k' v' m m' t t' p p' s s' d d' := by
  unfold sameRow
  rw [Bool.eq_iff_iff]
  simp only [ByteArray.toList_eq, Bool.and_eq_true, beq_iff_eq]
  constructor
  · intro hh
    have hh : encRow k.data.toList v.data.toList m t p s d = encRow k'.data.toList v'.data.toList m' t' p' s' d' := hh
    have e := decV_encRow k.data.toList v.data.toList m t p s d ht hs (by simpa using h)
    rw [hh, decV_encRow k'.data.toList v'.data.toList m' t' p' s' d' ht' hs' (by simpa using h')] at e
    simp at e
    obtain ⟨e1, e2, e3, e4, e5, e6, e7⟩ := e
    simp [e1, e2, e3, e4, e5, e6, e7]
  · rintro ⟨e1, e2, e3, ⟨e4, e5⟩, e6, e7⟩
    have e3 : t = t' := by omega
    have e4 : p = p' := by omega
    have e5 : s = s' := by omega
    have e7 : d = d' := by omega
    rw [e1, e2, e3, e4, e5, e6, e7]

/-- What bytes that are read are: a row that may be, whose bytes they are. -/
theorem decOk_row (l : List UInt8) (h : decOk l = true) : mayRow (dK l).length (dV l).length (rdNum l 9 4) (rdNum l 13 2) (dPad l) = true ∧ encRow (dK l) (dV l) (decide (0 < rdNum l 0 1)) (rdNum l 1 8) (rdNum l 9 4) (rdNum l 13 2) (dPad l).toNat = l := by
  unfold decOk at h
  simp only [Bool.and_eq_true, beq_iff_eq] at h
  exact ⟨h.2.1, h.2.2⟩

end Go.Proofs.Ytjcfnfpilladfaa

namespace Go.Proofs.Ytjcfnfpilladfaa
open Go.RowKit
set_option linter.unusedVariables false
set_option linter.unusedSimpArgs false

theorem cut_one {l : List UInt8} (i n : Nat) : l.drop i = (l.drop i).take n ++ l.drop (i + n) := by
  rw [← List.drop_drop, List.take_append_drop]

theorem rdNum_in {l : List UInt8} {i k : Nat} (h : i + k ≤ l.length) : rdNum l i k = un ((l.drop i).take k) := by unfold rdNum; rw [if_pos h]
theorem rdText_in {l : List UInt8} {i k : Nat} (h : i + k ≤ l.length) : rdText l i k = (l.drop i).take k := by unfold rdText; rw [if_pos h]
theorem piece_len {l : List UInt8} {i k : Nat} (h : i + k ≤ l.length) : ((l.drop i).take k).length = k := by simp; omega
theorem be_rd {l : List UInt8} {i k : Nat} (h : i + k ≤ l.length) : be k (rdNum l i k) = (l.drop i).take k := by rw [rdNum_in h, be_un k _ (piece_len h)]

/-- The bytes between a row's mark and its tail. -/
def dMid (l : List UInt8) : List UInt8 :=
  (l.drop 1).take 8 ++ ((l.drop 9).take 4 ++ ((l.drop 13).take 2 ++ ((l.drop 15).take 1 ++ ((l.drop 16).take (dKn l) ++ ((l.drop (16 + dKn l)).take 1 ++ (l.drop (16 + dKn l + 1)).take (dVn l))))))

theorem whole_row (l : List UInt8) : l = l.take 1 ++ (dMid l ++ l.drop (dE l)) := by
  have h0 := (List.take_append_drop 1 l).symm
  rw [cut_one 1 8, cut_one (1 + 8) 4, cut_one (1 + 8 + 4) 2, cut_one (1 + 8 + 4 + 2) 1, cut_one (1 + 8 + 4 + 2 + 1) (dKn l), cut_one (1 + 8 + 4 + 2 + 1 + dKn l) 1, cut_one (1 + 8 + 4 + 2 + 1 + dKn l + 1) (dVn l)] at h0
  unfold dMid dE dA
  simpa [List.append_assoc] using h0

theorem decEnc_eq (l : List UInt8) (h16 : 16 ≤ l.length) (hA : dA l + 1 ≤ l.length) (hE : dE l ≤ l.length) :
    decEnc l = [if decide (0 < rdNum l 0 1) then 1 else 0] ++ (dMid l ++ List.replicate (l.length - dE l) 0) := by
  have gA : dA l = 16 + dKn l := rfl
  have gE : dE l = dA l + 1 + dVn l := rfl
  have e1 : dK l = (l.drop 16).take (dKn l) := rdText_in (by omega)
  have e2 : dV l = (l.drop (16 + dKn l + 1)).take (dVn l) := by
    have : dA l + 1 = 16 + dKn l + 1 := rfl
    unfold dV
    rw [this]
    exact rdText_in (by omega)
  have e3 : (dK l).length = dKn l := by rw [e1]; exact piece_len (by omega)
  have e4 : (dV l).length = dVn l := by rw [e2]; exact piece_len (by omega)
  have e5 : be 1 (dKn l) = (l.drop 15).take 1 := be_rd (by omega)
  have e6 : be 1 (dVn l) = (l.drop (16 + dKn l)).take 1 := be_rd (by omega)
  have e7 : (dPad l).toNat = l.length - dE l := by unfold dPad; omega
  unfold decEnc encRow dMid
  rw [e3, e4, e5, e6, e7, ← e1, ← e2, be_rd (l := l) (i := 1) (k := 8) (by omega), be_rd (l := l) (i := 9) (k := 4) (by omega), be_rd (l := l) (i := 13) (k := 2) (by omega)]
  simp [List.append_assoc]

theorem mark_eq (l : List UInt8) (h1 : 1 ≤ l.length) : ([if decide (0 < rdNum l 0 1) then 1 else 0] = l.take 1) ↔ rdNum l 0 1 ≤ 1 := by
  match l, h1 with
  | c :: r, _ =>
    have : rdNum (c :: r) 0 1 = c.toNat := by
      rw [rdNum_in (by simp)]
      simp [un]
    rw [this]
    simp only [List.take_succ_cons, List.take_zero, List.cons.injEq, and_true]
    have hc := c.toNat_lt
    constructor
    · intro h
      rw [← h]
      split <;> decide
    · intro h
      rcases Nat.le_one_iff_eq_zero_or_eq_one.1 h with h0 | h0
      · obtain rfl : c = 0 := UInt8.toNat_inj.1 h0
        rfl
      · obtain rfl : c = 1 := UInt8.toNat_inj.1 h0
        rfl

theorem decOk_eq (l : List UInt8) (h16 : 16 ≤ l.length) (hA : dA l + 1 ≤ l.length) (hE : dE l ≤ l.length) :
    decOk l = (decMay l && (decide (rdNum l 0 1 ≤ 1) && decide (l.drop (dE l) = List.replicate (l.length - dE l) 0))) := by
  have hIs : dIs l = true := by
    unfold dIs rd4
    simp
    omega
  have hh : (decEnc l == l) = (decide (rdNum l 0 1 ≤ 1) && decide (l.drop (dE l) = List.replicate (l.length - dE l) 0)) := by
    have hmk := mark_eq l (by omega)
    rw [decEnc_eq l h16 hA hE, Bool.eq_iff_iff]
    generalize (if decide (0 < rdNum l 0 1) = true then (1 : UInt8) else 0) = M at hmk ⊢
    simp only [beq_iff_eq, Bool.and_eq_true, decide_eq_true_eq]
    rw [← hmk]
    constructor
    · intro h
      have h2 := whole_row l
      have h3 := h.trans h2
      obtain ⟨ha, hb⟩ := List.append_inj h3 (by simp; omega)
      exact ⟨ha, (List.append_cancel_left hb).symm⟩
    · rintro ⟨ha, hb⟩
      rw [ha, ← hb]
      exact (whole_row l).symm
  unfold decOk
  rw [hIs, hh, Bool.true_and]

theorem decOk_short (l : List UInt8) (h : ¬ (16 ≤ l.length ∧ dA l + 1 ≤ l.length ∧ dE l ≤ l.length)) : decOk l = false := by
  have hIs : dIs l = false := by
    rw [← Bool.not_eq_true]
    intro hh
    unfold dIs rd4 at hh
    simp at hh
    omega
  unfold decOk
  rw [hIs, Bool.false_and]

theorem decOk_mark (l : List UInt8) (h : 1 < rdNum l 0 1) : decOk l = false := by
  by_cases hh : 16 ≤ l.length ∧ dA l + 1 ≤ l.length ∧ dE l ≤ l.length
  · rw [decOk_eq l hh.1 hh.2.1 hh.2.2, decide_eq_false (by omega)]
    simp
  · exact decOk_short l hh

theorem decOk_tail (l : List UInt8) (i : Nat) (hi : dE l ≤ i) (hl : i < l.length) (hx : l[i] ≠ 0) : decOk l = false := by
  by_cases hh : 16 ≤ l.length ∧ dA l + 1 ≤ l.length ∧ dE l ≤ l.length
  · rw [decOk_eq l hh.1 hh.2.1 hh.2.2, decide_eq_false (p := l.drop (dE l) = _) ?_]
    · simp
    · intro h
      apply hx
      have h1 : (l.drop (dE l))[i - dE l]? = some l[i] := by
        rw [List.getElem?_drop, show dE l + (i - dE l) = i by omega, List.getElem?_eq_getElem hl]
      rw [h, List.getElem?_replicate] at h1
      split at h1
      · exact (Option.some.inj h1).symm
      · simp at h1
  · exact decOk_short l hh

/-- The bytes from E up to i are nothing but zeros. -/
def zerosTo (l : List UInt8) (e i : Nat) : Prop := ∀ j, e ≤ j → j < i → ∀ h : j < l.length, l[j] = 0
theorem zerosTo_step {l : List UInt8} {e i : Nat} (h : zerosTo l e i) (hl : i < l.length) (h0 : l[i] = 0) : zerosTo l e (i + 1) := by
  intro j hj hi hh
  by_cases hx : j = i
  · subst hx; exact h0
  · exact h j hj (by omega) hh
theorem zerosTo_all {l : List UInt8} {e : Nat} (h : zerosTo l e l.length) : l.drop e = List.replicate (l.length - e) 0 := by
  apply List.ext_getElem (by simp)
  intro n h1 h2
  rw [List.getElem_drop, List.getElem_replicate]
  have : n < l.length - e := by simpa using h1
  exact h (e + n) (by omega) (by omega) (by omega)

end Go.Proofs.Ytjcfnfpilladfaa

namespace Go.Proofs.Ytjcfnfpilladfaa
open Go.RowKit
set_option linter.unusedVariables false
set_option linter.unusedSimpArgs false

theorem refGet_any (s : ByteArray) (a k : Nat) (w : World) (hs : s.size ≤ 1000000) (ha : a ≤ 2000000) (h1 : 1 ≤ k) (h8 : k ≤ 8) :
    Calls Try.prog 97 #[.string s, .int .i64 a, .int .i64 k] w fun e w' => e = .returned (.tuple #[.int .u64 (rdNum s.data.toList a k), .bool (decide (a + k ≤ s.size))]) ∧ w = w' := by
  have hsm : s.size ≤ maxLen := by unfold maxLen; omega
  have hlen : s.data.toList.length = s.size := by simp
  by_cases h : a + k ≤ s.size
  · have hn : rdNum s.data.toList a k = un ((s.data.toList.drop a).take k) := by unfold rdNum; rw [if_pos (by rw [hlen]; exact h)]
    rw [hn, decide_eq_true h]
    exact refGet_yes s a k w hsm h h1 h8
  · have hn : rdNum s.data.toList a k = 0 := by unfold rdNum; rw [if_neg (by rw [hlen]; exact h)]
    rw [hn, decide_eq_false h]
    exact refGet_no s a k w hsm (Or.inr (Or.inr (by omega))) (by omega) (by omega)

theorem decV_bad {l : List UInt8} (h : decOk l = false) : decV l = .tuple #[.agg #[.string ⟨#[]⟩, .bool false, .int .u64 0, .int .u32 0, .int .u16 0, .string ⟨#[]⟩, .int .i64 0], .int .i64 7] := by unfold decV; rw [h]; rfl

set_option maxHeartbeats 2000000 in
set_option maxRecDepth 100000 in
theorem refDecode_chain (s : ByteArray) (n1 n2 n3 n4 n5 : Nat) (b1 b2 b3 b4 b5 : Bool) (w : World)
    (C1 : Hid (∀ W, Calls Try.prog 97 #[.string s, .int .i64 0, .int .i64 1] W fun e w' => e = .returned (.tuple #[.int .u64 n1, .bool b1]) ∧ W = w'))
    (C2 : Hid (∀ W, Calls Try.prog 97 #[.string s, .int .i64 1, .int .i64 8] W fun e w' => e = .returned (.tuple #[.int .u64 n2, .bool b2]) ∧ W = w'))
    (C3 : Hid (∀ W, Calls Try.prog 97 #[.string s, .int .i64 9, .int .i64 4] W fun e w' => e = .returned (.tuple #[.int .u64 n3, .bool b3]) ∧ W = w'))
    (C4 : Hid (∀ W, Calls Try.prog 97 #[.string s, .int .i64 13, .int .i64 2] W fun e w' => e = .returned (.tuple #[.int .u64 n4, .bool b4]) ∧ W = w'))
    (C5 : Hid (∀ W, Calls Try.prog 97 #[.string s, .int .i64 15, .int .i64 1] W fun e w' => e = .returned (.tuple #[.int .u64 n5, .bool b5]) ∧ W = w'))
    (hb : (b1 && (b2 && (b3 && (b4 && b5)))) = false) (HO : Hid (decOk s.data.toList = false)) :
    Calls Try.prog 117 #[.string s] w fun e w' => e = .returned (decV s.data.toList) ∧ Below w.heap.size w w' := by
  cases b1 with
  | false =>
    clear hb
    go_enter Try.func117, Try.ntmps117
    go_wp2_with fail
    refine (C1.out _).mono ?_
    rintro e w1 ⟨rfl, rfl⟩
    go_wp2_with fail
    refine (C2.out _).mono ?_
    rintro e w2 ⟨rfl, rfl⟩
    go_wp2_with fail
    refine (C3.out _).mono ?_
    rintro e w3 ⟨rfl, rfl⟩
    go_wp2_with fail
    refine (C4.out _).mono ?_
    rintro e w4 ⟨rfl, rfl⟩
    go_wp2_with fail
    refine (C5.out _).mono ?_
    rintro e w5 ⟨rfl, rfl⟩
    go_wp2_with fail
    refine bodyPost_ret (v := .tuple #[.agg #[.string ⟨#[]⟩, .bool false, .int .u64 0, .int .u32 0, .int .u16 0, .string ⟨#[]⟩, .int .i64 0], .int .i64 7]) (by simp [results, Try.results117, go_sem]) rfl ⟨?_, (Below.refl _ _).alloc (Nat.le_refl _) _⟩
    rw [decV_bad HO.out]
  | true =>
    cases b2 with
    | false =>
      clear hb
      go_enter Try.func117, Try.ntmps117
      go_wp2_with fail
      refine (C1.out _).mono ?_
      rintro e w1 ⟨rfl, rfl⟩
      go_wp2_with fail
      refine (C2.out _).mono ?_
      rintro e w2 ⟨rfl, rfl⟩
      go_wp2_with fail
      refine (C3.out _).mono ?_
      rintro e w3 ⟨rfl, rfl⟩
      go_wp2_with fail
      refine (C4.out _).mono ?_
      rintro e w4 ⟨rfl, rfl⟩
      go_wp2_with fail
      refine (C5.out _).mono ?_
      rintro e w5 ⟨rfl, rfl⟩
      go_wp2_with fail
      refine bodyPost_ret (v := .tuple #[.agg #[.string ⟨#[]⟩, .bool false, .int .u64 0, .int .u32 0, .int .u16 0, .string ⟨#[]⟩, .int .i64 0], .int .i64 7]) (by simp [results, Try.results117, go_sem]) rfl ⟨?_, (Below.refl _ _).alloc (Nat.le_refl _) _⟩
      rw [decV_bad HO.out]
    | true =>
      cases b3 with
      | false =>
        clear hb
        go_enter Try.func117, Try.ntmps117
        go_wp2_with fail
        refine (C1.out _).mono ?_
        rintro e w1 ⟨rfl, rfl⟩
        go_wp2_with fail
        refine (C2.out _).mono ?_
        rintro e w2 ⟨rfl, rfl⟩
        go_wp2_with fail
        refine (C3.out _).mono ?_
        rintro e w3 ⟨rfl, rfl⟩
        go_wp2_with fail
        refine (C4.out _).mono ?_
        rintro e w4 ⟨rfl, rfl⟩
        go_wp2_with fail
        refine (C5.out _).mono ?_
        rintro e w5 ⟨rfl, rfl⟩
        go_wp2_with fail
        refine bodyPost_ret (v := .tuple #[.agg #[.string ⟨#[]⟩, .bool false, .int .u64 0, .int .u32 0, .int .u16 0, .string ⟨#[]⟩, .int .i64 0], .int .i64 7]) (by simp [results, Try.results117, go_sem]) rfl ⟨?_, (Below.refl _ _).alloc (Nat.le_refl _) _⟩
        rw [decV_bad HO.out]
      | true =>
        cases b4 with
        | false =>
          clear hb
          go_enter Try.func117, Try.ntmps117
          go_wp2_with fail
          refine (C1.out _).mono ?_
          rintro e w1 ⟨rfl, rfl⟩
          go_wp2_with fail
          refine (C2.out _).mono ?_
          rintro e w2 ⟨rfl, rfl⟩
          go_wp2_with fail
          refine (C3.out _).mono ?_
          rintro e w3 ⟨rfl, rfl⟩
          go_wp2_with fail
          refine (C4.out _).mono ?_
          rintro e w4 ⟨rfl, rfl⟩
          go_wp2_with fail
          refine (C5.out _).mono ?_
          rintro e w5 ⟨rfl, rfl⟩
          go_wp2_with fail
          refine bodyPost_ret (v := .tuple #[.agg #[.string ⟨#[]⟩, .bool false, .int .u64 0, .int .u32 0, .int .u16 0, .string ⟨#[]⟩, .int .i64 0], .int .i64 7]) (by simp [results, Try.results117, go_sem]) rfl ⟨?_, (Below.refl _ _).alloc (Nat.le_refl _) _⟩
          rw [decV_bad HO.out]
        | true =>
          cases b5 with
          | false =>
            clear hb
            go_enter Try.func117, Try.ntmps117
            go_wp2_with fail
            refine (C1.out _).mono ?_
            rintro e w1 ⟨rfl, rfl⟩
            go_wp2_with fail
            refine (C2.out _).mono ?_
            rintro e w2 ⟨rfl, rfl⟩
            go_wp2_with fail
            refine (C3.out _).mono ?_
            rintro e w3 ⟨rfl, rfl⟩
            go_wp2_with fail
            refine (C4.out _).mono ?_
            rintro e w4 ⟨rfl, rfl⟩
            go_wp2_with fail
            refine (C5.out _).mono ?_
            rintro e w5 ⟨rfl, rfl⟩
            go_wp2_with fail
            refine bodyPost_ret (v := .tuple #[.agg #[.string ⟨#[]⟩, .bool false, .int .u64 0, .int .u32 0, .int .u16 0, .string ⟨#[]⟩, .int .i64 0], .int .i64 7]) (by simp [results, Try.results117, go_sem]) rfl ⟨?_, (Below.refl _ _).alloc (Nat.le_refl _) _⟩
            rw [decV_bad HO.out]
          | true =>
            simp at hb

set_option maxHeartbeats 2000000 in
set_option maxRecDepth 100000 in
theorem refDecode_mark (s : ByteArray) (n1 n2 n3 n4 n5 : Nat) (w : World)
    (C1 : Hid (∀ W, Calls Try.prog 97 #[.string s, .int .i64 0, .int .i64 1] W fun e w' => e = .returned (.tuple #[.int .u64 n1, .bool true]) ∧ W = w'))
    (C2 : Hid (∀ W, Calls Try.prog 97 #[.string s, .int .i64 1, .int .i64 8] W fun e w' => e = .returned (.tuple #[.int .u64 n2, .bool true]) ∧ W = w'))
    (C3 : Hid (∀ W, Calls Try.prog 97 #[.string s, .int .i64 9, .int .i64 4] W fun e w' => e = .returned (.tuple #[.int .u64 n3, .bool true]) ∧ W = w'))
    (C4 : Hid (∀ W, Calls Try.prog 97 #[.string s, .int .i64 13, .int .i64 2] W fun e w' => e = .returned (.tuple #[.int .u64 n4, .bool true]) ∧ W = w'))
    (C5 : Hid (∀ W, Calls Try.prog 97 #[.string s, .int .i64 15, .int .i64 1] W fun e w' => e = .returned (.tuple #[.int .u64 n5, .bool true]) ∧ W = w'))
    (hn : 1 < n1) (h1 : n1 < 18446744073709551616) (HO : Hid (decOk s.data.toList = false)) :
    Calls Try.prog 117 #[.string s] w fun e w' => e = .returned (decV s.data.toList) ∧ Below w.heap.size w w' := by
  go_enter Try.func117, Try.ntmps117
  go_wp2_with fail
  refine (C1.out _).mono ?_
  rintro e w1 ⟨rfl, rfl⟩
  go_wp2_with fail
  refine (C2.out _).mono ?_
  rintro e w2 ⟨rfl, rfl⟩
  go_wp2_with fail
  refine (C3.out _).mono ?_
  rintro e w3 ⟨rfl, rfl⟩
  go_wp2_with fail
  refine (C4.out _).mono ?_
  rintro e w4 ⟨rfl, rfl⟩
  go_wp2_with fail
  refine (C5.out _).mono ?_
  rintro e w5 ⟨rfl, rfl⟩
  go_wp2_with fail
  refine bodyPost_ret (v := .tuple #[.agg #[.string ⟨#[]⟩, .bool false, .int .u64 0, .int .u32 0, .int .u16 0, .string ⟨#[]⟩, .int .i64 0], .int .i64 7]) (by simp [results, Try.results117, go_sem]) rfl ⟨?_, (Below.refl _ _).alloc (Nat.le_refl _) _⟩
  rw [decV_bad HO.out]

end Go.Proofs.Ytjcfnfpilladfaa

namespace Go.Proofs.Ytjcfnfpilladfaa
open Go.RowKit
set_option linter.unusedVariables false
set_option linter.unusedSimpArgs false

theorem dK_extract (s : ByteArray) (h : 16 + dKn s.data.toList ≤ s.size) : s.extract 16 (16 + dKn s.data.toList) = ⟨(dK s.data.toList).toArray⟩ := by
  have hlen : s.data.toList.length = s.size := by simp
  apply bytes_ext
  rw [Lib.extract_data]
  unfold dK
  rw [show 15 + 1 = 16 from rfl, rdText_in (by omega)]
  simp

theorem dV_extract (s : ByteArray) (h : dE s.data.toList ≤ s.size) : s.extract (17 + dKn s.data.toList) (dE s.data.toList) = ⟨(dV s.data.toList).toArray⟩ := by
  have hlen : s.data.toList.length = s.size := by simp
  have hE : dE s.data.toList = dA s.data.toList + 1 + dVn s.data.toList := rfl
  have hA : dA s.data.toList = 15 + 1 + dKn s.data.toList := rfl
  apply bytes_ext
  rw [Lib.extract_data]
  unfold dV
  rw [rdText_in (by omega)]
  have h1 : dA s.data.toList + 1 = 17 + dKn s.data.toList := by omega
  have h2 : dE s.data.toList - (17 + dKn s.data.toList) = dVn s.data.toList := by omega
  rw [h1, h2]

theorem decOk_fit (s : ByteArray) (h16 : 16 ≤ s.size) (hE : dE s.data.toList ≤ s.size) (h1 : rdNum s.data.toList 0 1 ≤ 1) (hz : s.data.toList.drop (dE s.data.toList) = List.replicate (s.size - dE s.data.toList) 0) :
    decOk s.data.toList = mayRow (s.extract 16 (16 + dKn s.data.toList)).size (s.extract (17 + dKn s.data.toList) (dE s.data.toList)).size (rdNum s.data.toList 9 4) (rdNum s.data.toList 13 2) ((s.size : Int) - (dE s.data.toList : Int)) := by
  have hlen : s.data.toList.length = s.size := by simp
  have hE' : dE s.data.toList = dA s.data.toList + 1 + dVn s.data.toList := rfl
  have hA : dA s.data.toList = 15 + 1 + dKn s.data.toList := rfl
  rw [decOk_eq s.data.toList (by omega) (by omega) (by omega), decide_eq_true h1, decide_eq_true (p := _ = _) (by rw [hlen]; exact hz), dK_extract s (by omega), dV_extract s hE]
  unfold decMay dPad
  rw [hlen]
  show _ = mayRow (dK s.data.toList).toArray.size (dV s.data.toList).toArray.size _ _ _
  simp

/-- What Decode returns, of what it has cut out. -/
theorem decV_fit (s : ByteArray) (n1 n2 n3 n4 n5 n6 E : Nat) (hn1 : rdNum s.data.toList 0 1 = n1) (hn2 : rdNum s.data.toList 1 8 = n2) (hn3 : rdNum s.data.toList 9 4 = n3) (hn4 : rdNum s.data.toList 13 2 = n4) (hn5 : dKn s.data.toList = n5) (hn6 : dVn s.data.toList = n6) (hE : E = 17 + n5 + n6)
    (hin : 17 + n5 + n6 ≤ s.size) (h1 : n1 ≤ 1) (hz : s.data.toList.drop E = List.replicate (s.size - E) 0) (kS vS : ByteArray) (m : Bool) (pad : Int)
    (hk : s.extract 16 (16 + (n5 : Int)).toNat = kS) (hv : s.extract (16 + (n5 : Int) + 1).toNat E = vS) (hm : ((n1 : Int) == 1) = m) (hp : (s.size : Int) - (E : Int) = pad) :
    decV s.data.toList = (if mayRow kS.size vS.size n3 n4 pad then .tuple #[.agg #[.string kS, .bool m, .int .u64 n2, .int .u32 n3, .int .u16 n4, .string vS, .int .i64 pad], .int .i64 0] else .tuple #[.agg #[.string ⟨#[]⟩, .bool false, .int .u64 0, .int .u32 0, .int .u16 0, .string ⟨#[]⟩, .int .i64 0], .int .i64 7]) := by
  have hlen : s.data.toList.length = s.size := by simp
  have hE' : dE s.data.toList = E := by
    have hE' : dE s.data.toList = dA s.data.toList + 1 + dVn s.data.toList := rfl
    have hA : dA s.data.toList = 15 + 1 + dKn s.data.toList := rfl
    omega
  have ha : (16 + (n5 : Int)).toNat = 16 + n5 := by omega
  have hb : (16 + (n5 : Int) + 1).toNat = 17 + n5 := by omega
  rw [ha] at hk
  rw [hb] at hv
  have hd := decOk_fit s (by omega) (by omega) (by omega) (by rw [hE']; exact hz)
  rw [hE', hn3, hn4, hn5, hk, hv, hp] at hd
  have hk2 := dK_extract s (by omega)
  have hv2 := dV_extract s (by omega)
  rw [hn5, hk] at hk2
  rw [hE', hn5, hv] at hv2
  have hm2 : decide (0 < n1) = m := by
    rw [← hm]
    rcases Nat.le_one_iff_eq_zero_or_eq_one.1 h1 with h0 | h0 <;> subst h0 <;> rfl
  have hpp : dPad s.data.toList = pad := by unfold dPad; rw [hlen, hE', hp]
  unfold decV
  rw [hd, hn1, hn2, hn3, hn4, hm2, hpp, ← hk2, ← hv2]

end Go.Proofs.Ytjcfnfpilladfaa
