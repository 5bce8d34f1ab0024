/- The contract of row.DecodeEntry: which entry bytes are, in plain words. -/
import Derived.Test.YtahaikfijegknaaRows
import Derived.Test.YtahaikfijegknaaEntEncode
import Derived.Test.YtahaikfijegknaaRowDecode
import Derived.WalkKit
import Derived.WalkLawsBesides
import Derived.WalkSpells
import Derived.LoopTactic
import Derived.WalkMore
import Derived.LoopN
import Derived.Laws.BitsAllLaws
import Derived.Laws.IdiomStrings
import Derived.BigQuiet
import Derived.Deep.QuietTactic
import Derived.Deep.DeepCutAuto
import Derived.Deep.RegionHeld3
import Derived.Deep.DrawnRows
import Derived.Lib.Hide
import Derived.Outline
import Derived.Deep.DeepMust
import Derived.Handy
namespace Go.Proofs.Ytahaikfijegknaa
open Go.RowKit
set_option linter.unusedVariables false
set_option linter.unusedSimpArgs false

/-- What row.DecodeEntry returns. -/
def decEntV (l : List UInt8) : Value :=
  if decEntOk l then .tuple #[.agg #[.string ⟨(l.drop 4).toArray⟩, .int .u32 (rdNum l 0 4)], .int .i64 0] else .tuple #[.agg #[.string ⟨#[]⟩, .int .u32 0], .int .i64 7]

theorem ent_res {w : World} {g : Nat} {t : TypeId} {a0 a1 : Value} (h : w.heap[g]? = some (.cells #[a0, a1] t (0, 0))) (v0 v1 : Value) :
    ((w.setCell ⟨g, 0, none⟩ v0).setCell ⟨g, 1, none⟩ v1).cell? ⟨g, 0, none⟩ = some v0 ∧ ((w.setCell ⟨g, 0, none⟩ v0).setCell ⟨g, 1, none⟩ v1).cell? ⟨g, 1, none⟩ = some v1 := by
  have hb := blk_set (blk_set h 0 v0) 1 v1
  simp only [List.setIfInBounds_toArray, List.set_cons_zero, List.set_cons_succ] at hb
  generalize (w.setCell ⟨g, 0, none⟩ v0).setCell ⟨g, 1, none⟩ v1 = W at hb ⊢
  refine ⟨?_, ?_⟩ <;> (rw [blk_cell hb]; rfl)

set_option maxHeartbeats 2000000 in
set_option maxRecDepth 100000 in
theorem entDecode_any (s : ByteArray) (w : World) (hs : s.size ≤ 1000000) :
    Calls Try.prog 32 #[.string s] w fun e w' => e = .returned (decEntV s.data.toList) ∧ Below w.heap.size w w' := by
  have hsm : s.size ≤ maxLen := by unfold maxLen; omega
  have hlen : s.data.toList.length = s.size := by simp
  have l4 := rdNum_lt s.data.toList 0 4
  have hO : Hid (decEntOk s.data.toList = (decide (4 ≤ s.size) && mayEnt (s.size - 4) (rdNum s.data.toList 0 4))) := by show _ = _; unfold decEntOk; rw [hlen]
  have hD : Hid (decEntV s.data.toList = if decEntOk s.data.toList then .tuple #[.agg #[.string ⟨(s.data.toList.drop 4).toArray⟩, .int .u32 (rdNum s.data.toList 0 4)], .int .i64 0] else .tuple #[.agg #[.string ⟨#[]⟩, .int .u32 0], .int .i64 7]) := rfl
  have C := Lib.hid fun W is hW => num_any s (w.heap.size + 1) 0 4 is W hsm (by omega) (by omega) (by omega) hW
  generalize rdNum s.data.toList 0 4 = n at *
  simp only [Nat.reducePow] at l4
  have wn : IntKind.u32.wrap (n : Int) = n := IntWalk.u32_in _ ⟨by omega, by omega⟩
  have bR := heap_alloc_new w (.cells #[.string ⟨#[]⟩, .int .u32 0] 47)
  have bD : RdIn ((w.alloc (.cells #[.string ⟨#[]⟩, .int .u32 0] 47)).alloc (.cells #[.string s, .int .i64 0, .bool true] 79)) (w.heap.size + 1) s 0 true := by
    have := heap_alloc_new (w.alloc (.cells #[.string ⟨#[]⟩, .int .u32 0] 47)) (.cells #[.string s, .int .i64 0, .bool true] 79)
    unfold RdIn
    simpa using this
  have bR2 := heap_keep (o := .cells #[.string s, .int .i64 0, .bool true] 79) bR
  have HD0 := Lib.hid bD
  have HR0 := Lib.hid bR2
  clear bR bD bR2 hlen
  go_enter Try.func32, Try.ntmps32
  go_wp2_with fail
  refine (C.out _ _ HD0.out).mono ?_
  rintro e w1 ⟨rfl, hr1, hg1⟩
  have bR1 := (hg1.block _ (blk_lt HR0.out) (by simp)).trans HR0.out
  have hw1 : w.heap.size + 1 < w1.heap.size := blk_lt hr1
  have hbl1 : Below w.heap.size w w1 := (((Below.refl _ _).alloc (Nat.le_refl _) _).alloc (by simp) _).grown hg1 (by simp; omega) (fun k hk => by injection hk with hk; omega)
  by_cases h4 : 4 ≤ s.size
  · have hd : Hid (decide (0 + 4 ≤ s.size) = true) := by show _ = _; simpa using h4
    rw [hd.out] at hr1
    have d1 := blk_cell hr1 1
    have d2 := blk_cell hr1 2
    have hfin : Hid ((⟨(s.data.toList.drop 4).toArray⟩ : ByteArray) = s.extract 4 s.size) := by
      show _ = _
      apply bytes_ext
      rw [Lib.extract_data]
      exact (List.take_of_length_le (by simp)).symm
    have hsz4 : (s.extract 4 s.size).size = s.size - 4 := by simp
    have hO2 : Hid (decEntOk s.data.toList = mayEnt (s.extract 4 s.size).size n) := by
      show _ = _
      rw [hO.out, hsz4, decide_eq_true (by omega : 4 ≤ s.size), Bool.true_and]
    have bX2 := heap_alloc_new w1 (.cells #[.string (s.extract 4 s.size), .int .u32 n] 47)
    have bR2 := heap_keep (o := .cells #[.string (s.extract 4 s.size), .int .u32 n] 47) bR1
    have hbX : Below w.heap.size w1 (w1.alloc (.cells #[.string (s.extract 4 s.size), .int .u32 n] 47)) := (Below.refl _ _).alloc (by omega) _
    cases hm : mayEnt (s.extract 4 s.size).size n with
    | false =>
      have E := Lib.hid fun W => entEncode_no (s.extract 4 s.size) n W (by rw [hsz4]; omega) hm
      have hOf : Hid (decEntOk s.data.toList = false) := by show _ = _; rw [hO2.out, hm]
      clear hm hsz4 hO2 hO hr1 bR1 hg1
      go_wp2_with fail
      refine (E.out _).mono ?_
      rintro e w2 ⟨rfl, hb2⟩
      have bR3 := (hb2.block _ (blk_lt bR2)).trans bR2
      have bX3 := (hb2.block _ (blk_lt bX2)).trans bX2
      have hbl := (hbl1.trans hbX).trans (hb2.mono (by simp; omega))
      have x0 := blk_cell bX3 0
      have x1 := blk_cell bX3 1
      have r0 := blk_cell bR3 0
      have r1 := blk_cell bR3 1
      have g0 := blk_frozen bR3 0
      have g1 := blk_frozen bR3 1
      have Br := Lib.hid bR3
      clear bR3 bX3 bR2 bX2 hb2
      go_wp2_with fail
      have q := ent_res Br.out (.string ⟨#[]⟩) (.int .u32 0)
      obtain ⟨q0, q1⟩ := q
      refine bodyPost_ret (v := .tuple #[.agg #[.string ⟨#[]⟩, .int .u32 0], .int .i64 7]) (by simp [results, Try.results32, go_sem, q0, q1]) rfl ⟨?_, (hbl.setCell (Nat.le_refl _) _).setCell (Nat.le_refl _) _⟩
      rw [hD.out, hOf.out]
      rfl
    | true =>
      have E := Lib.hid fun W => entEncode_yes (s.extract 4 s.size) n W hm
      have hOf : Hid (decEntOk s.data.toList = true) := by show _ = _; rw [hO2.out, hm]
      clear hm hsz4 hO2 hO hr1 bR1 hg1
      go_wp2_with fail
      refine (E.out _).mono ?_
      rintro e w2 ⟨rfl, hb2⟩
      have bR3 := (hb2.block _ (blk_lt bR2)).trans bR2
      have bX3 := (hb2.block _ (blk_lt bX2)).trans bX2
      have hbl := (hbl1.trans hbX).trans (hb2.mono (by simp; omega))
      have x0 := blk_cell bX3 0
      have x1 := blk_cell bX3 1
      have r0 := blk_cell bR3 0
      have r1 := blk_cell bR3 1
      have g0 := blk_frozen bR3 0
      have g1 := blk_frozen bR3 1
      have Br := Lib.hid bR3
      clear bR3 bX3 bR2 bX2 hb2
      go_wp2_with fail
      have q := ent_res Br.out (.string (s.extract 4 s.size)) (.int .u32 n)
      obtain ⟨q0, q1⟩ := q
      refine bodyPost_ret (v := .tuple #[.agg #[.string (s.extract 4 s.size), .int .u32 n], .int .i64 0]) (by simp [results, Try.results32, go_sem, q0, q1]) rfl ⟨?_, (hbl.setCell (Nat.le_refl _) _).setCell (Nat.le_refl _) _⟩
      rw [hD.out, hOf.out, hfin.out]
      rfl
  · have hd : Hid (decide (0 + 4 ≤ s.size) = false) := by show _ = _; simp; omega
    rw [hd.out] at hr1
    have d2 := blk_cell hr1 2
    have hOf : Hid (decEntOk s.data.toList = false) := by show _ = _; rw [hO.out, decide_eq_false h4, Bool.false_and]
    have r0 := blk_cell bR1 0
    have r1 := blk_cell bR1 1
    have g0 := blk_frozen bR1 0
    have g1 := blk_frozen bR1 1
    have bR2 := Lib.hid bR1
    have hw1' : w.heap.size < w1.heap.size := by omega
    clear hO hr1 bR1 hg1 C
    go_wp2_with fail
    have q := ent_res bR2.out (.string ⟨#[]⟩) (.int .u32 0)
    obtain ⟨q0, q1⟩ := q
    have hsz : w.heap.size < ((w1.setCell ⟨w.heap.size, 0, none⟩ (.string ⟨#[]⟩)).setCell ⟨w.heap.size, 1, none⟩ (.int .u32 0)).heap.size := by simpa [World.setCell] using hw1'
    have q0' := (World.cell?_alloc_lt _ (.cells #[.string ⟨#[]⟩, .int .u32 n] 47) ⟨w.heap.size, 0, none⟩ hsz).trans q0
    have q1' := (World.cell?_alloc_lt _ (.cells #[.string ⟨#[]⟩, .int .u32 n] 47) ⟨w.heap.size, 1, none⟩ hsz).trans q1
    refine bodyPost_ret (v := .tuple #[.agg #[.string ⟨#[]⟩, .int .u32 0], .int .i64 7]) (by simp [results, Try.results32, go_sem, q0', q1']) rfl ⟨?_, ((hbl1.setCell (Nat.le_refl _) _).setCell (Nat.le_refl _) _).alloc (Nat.le_of_lt hsz) _⟩
    rw [hD.out, hOf.out]
    rfl

end Go.Proofs.Ytahaikfijegknaa
