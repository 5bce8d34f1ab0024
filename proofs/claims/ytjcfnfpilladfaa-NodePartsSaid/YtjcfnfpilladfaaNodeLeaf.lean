/- chapter 08: a page of rows; chapter 08: a page of entries -/
import Derived.Test.YtjcfnfpilladfaaRows
import Derived.Test.YtjcfnfpilladfaaTextsP
import Derived.Test.YtjcfnfpilladfaaBase
import Derived.Test.YtjcfnfpilladfaaRowA
import Derived.Test.YtjcfnfpilladfaaEntA
import Derived.Test.YtjcfnfpilladfaaNodeKeysA
import Derived.WalkKit
import Derived.WalkLawsBesides
import Derived.WalkSpells
import Derived.LoopTactic
import Derived.WalkMore
import Derived.LoopN
import Derived.Laws.BitsAllLaws
import Derived.Laws.IdiomStrings
import Derived.BigQuiet
import Derived.Deep.QuietTactic
import Derived.Deep.DeepCutAuto
import Derived.Deep.RegionHeld3
import Derived.Deep.DrawnRows
import Derived.Lib.Hide
import Derived.Outline
import Derived.Deep.DeepMust
import Derived.Handy
namespace Go.Proofs.Ytjcfnfpilladfaa
open Go.RowKit
set_option linter.unusedVariables false
set_option linter.unusedSimpArgs false

/-- A row as data. -/
structure Rw where
  key : List UInt8
  del : Bool
  tx : Nat
  page : Nat
  slot : Nat
  val : List UInt8
  pad : Int
/-- A row's bytes; none, if it may not be. -/
def Rw.enc (r : Rw) : List UInt8 := if mayRow r.key.length r.val.length r.page r.slot r.pad then encRow r.key r.val r.del r.tx r.page r.slot r.pad.toNat else []
def Rw.wf (r : Rw) : Prop := r.key.length ≤ maxLen ∧ r.val.length ≤ maxLen ∧ r.tx < 256 ^ 8 ∧ r.slot < 256 ^ 2
def Rw.cell (r : Rw) : List Value := [.string ⟨r.key.toArray⟩, .bool r.del, .int .u64 r.tx, .int .u32 r.page, .int .u16 r.slot, .string ⟨r.val.toArray⟩, .int .i64 r.pad]
/-- A slice of rows that can be read. -/
def RowsAt (w : World) (sv : Value) (l : List Rw) : Prop :=
  ∃ A cp, sv = .slice A l.length cp ∧ l.length ≤ cp ∧ cp ≤ maxLen ∧ (0 < l.length → ∃ b o, A = some ⟨b, o, none⟩ ∧ b < w.heap.size ∧ ∀ j (h : j < l.length), ∀ i v, l[j].cell[i]? = some v → w.cell? ⟨b, o + j * 7 + i, none⟩ = some v)
theorem Rw.encode (r : Rw) (h : r.wf) : ∃ er : Int, ∀ W, Calls Try.prog 50 #[.agg #[.string ⟨r.key.toArray⟩, .bool r.del, .int .u64 r.tx, .int .u32 r.page, .int .u16 r.slot, .string ⟨r.val.toArray⟩, .int .i64 r.pad]] W fun e w' => e = .returned (.tuple #[.string ⟨r.enc.toArray⟩, .int .i64 er]) ∧ Below W.heap.size W w' := by
  obtain ⟨h1, h2, h3, h4⟩ := h
  cases hm : mayRow r.key.length r.val.length r.page r.slot r.pad with
  | true =>
    refine ⟨0, fun W => ?_⟩
    have hp : 0 ≤ r.pad := by
      have hM : MayRow r.key.length r.val.length r.page r.slot r.pad := of_decide_eq_true hm
      exact hM.2.2.1
    obtain ⟨d, hd⟩ : ∃ d : Nat, r.pad = d := ⟨r.pad.toNat, by omega⟩
    have := refEncode_yes ⟨r.key.toArray⟩ ⟨r.val.toArray⟩ r.del r.tx r.page r.slot d W (by simpa [ByteArray.size] using h1) (by simpa [ByteArray.size] using h2) h3 h4 (by simpa [ByteArray.size, hd] using hm)
    unfold Rw.enc
    rw [if_pos hm, hd]
    exact this
  | false =>
    refine ⟨2, fun W => ?_⟩
    have := refEncode_no ⟨r.key.toArray⟩ ⟨r.val.toArray⟩ r.del r.tx r.page r.slot r.pad W (by simpa [ByteArray.size] using h1) (by simpa [ByteArray.size] using h2) (by simpa [ByteArray.size] using hm)
    unfold Rw.enc
    rw [if_neg (by rw [hm]; simp)]
    exact this
def leafPg (l : List Rw) : Pg := ⟨1, 0, 5, 0, 9, l.map Rw.enc⟩
/-- What a call leaves that gives a page. -/
def PgOnly (w : World) (p : Pg) (e : Ending) (w' : World) : Prop := ∃ sv, e = .returned (pgV p sv) ∧ TextsAt w' sv p.rows ∧ Below w.heap.size w w'
set_option maxHeartbeats 2000000 in
set_option maxRecDepth 100000 in
theorem leaf_any (sv : Value) (l : List Rw) (w : World) (hr : RowsAt w sv l) (hw : ∀ r ∈ l, r.wf) (hl : l.length ≤ 1000000) :
    Calls Try.prog 49 #[sv] w (PgOnly w (leafPg l)) := by
  obtain ⟨A, cp, hsv, h2, h3, h5⟩ := hr
  obtain ⟨n, hn⟩ : ∃ n, n = l.length := ⟨_, rfl⟩
  rw [← hn] at hsv h2 hl
  subst hsv
  unfold maxLen at h3
  have H5 := Lib.hid h5
  have HN := Lib.hid hn
  have HW := Lib.hid hw
  clear h5 hn hw
  obtain ⟨i0, hif, hz0, hz1, hz2⟩ := info_parts Try.infoStr
  have HI := Lib.hid hif
  have HI0 := Lib.hid hz0
  have HI1 := Lib.hid hz1
  have HI2 := Lib.hid hz2
  clear hif hz0 hz1 hz2
  have P0 := Lib.hid ((PgBox.new w 0 0 0 0 0 (.slice none 0 0)).keep (.cells #[.int .u8 1, .int .u8 0, .int .u32 5, .int .u64 0, .int .u32 9, .slice none 0 0] 45))
  have P1 := Lib.hid (PgBox.new (w.alloc (.cells #[.int .u8 0, .int .u8 0, .int .u32 0, .int .u64 0, .int .u32 0, .slice none 0 0] 45)) 1 0 5 0 9 (.slice none 0 0))
  have hz1 : (w.alloc (.cells #[.int .u8 0, .int .u8 0, .int .u32 0, .int .u64 0, .int .u32 0, .slice none 0 0] 45)).heap.size = w.heap.size + 1 := by simp
  rw [hz1] at P1
  clear hz1
  have B0 := Lib.hid ((alloc_below w (.cells #[.int .u8 0, .int .u8 0, .int .u32 0, .int .u64 0, .int .u32 0, .slice none 0 0] 45)).alloc (by simp) (.cells #[.int .u8 1, .int .u8 0, .int .u32 5, .int .u64 0, .int .u32 9, .slice none 0 0] 45))
  go_enter Try.func49, Try.ntmps49
  go_wp2_with fail
  generalize (w.alloc (.cells #[.int .u8 0, .int .u8 0, .int .u32 0, .int .u64 0, .int .u32 0, .slice none 0 0] 45)).alloc (.cells #[.int .u8 1, .int .u8 0, .int .u32 5, .int .u64 0, .int .u32 9, .slice none 0 0] 45) = w0 at *
  have hs0 := P1.out.lt
  go_loopw [4] (fun s4 wr => ∃ (i : Nat) (v : Value), s4 = .int .i64 i ∧ i ≤ n ∧ Hid (wr.ownsRow w0.heap.size 9 1 v i (strs ((l.take i).map Rw.enc))) ∧ Hid (PgBox wr (w.heap.size + 1) 1 0 5 0 9 v) ∧ Hid (PgBox wr w.heap.size 0 0 0 0 0 (.slice none 0 0)) ∧ Hid (Below w.heap.size w wr) ∧ w0.heap.size ≤ wr.heap.size) (fun v _ => n - (intOf v).toNat)
  case atStart => exact ⟨0, _, rfl, Nat.zero_le _, Lib.hid (World.ownsRow_nil _ _ _ _), P1, P0, B0, Nat.le_refl _⟩
  case round =>
    obtain ⟨i, v, rfl, hi, hO, hP, hQ, hB, hs1⟩ := hrel
    obtain ⟨b1, c1, hv, hc1, hc2, _⟩ := own_form hO.out
    subst hv
    unfold maxLen at hc2
    by_cases hc : i < n
    · have hci : (i : Int) < (n : Int) := by omega
      have hia : i < l.length := by rw [← HN.out]; exact hc
      obtain ⟨b0, o0, rfl, _, hcell⟩ := H5.out (by omega)
      have q1 : (0 : Int) ≤ (i : Int) := by omega
      have hce := hcell i hia
      obtain ⟨er, hE⟩ := Rw.encode l[i] (HW.out _ (List.getElem_mem hia))
      have CE := Lib.hid hE
      have HT : Hid (strs ((l.take i).map Rw.enc) ++ [.string ⟨(l[i].enc).toArray⟩] = strs ((l.take (i + 1)).map Rw.enc)) := by
        show _ = _
        unfold strs
        rw [List.take_succ_eq_append_getElem hia, List.map_append, List.map_append]
        rfl
      have d0 : wr.cell? ⟨b0, o0 + i * 7, none⟩ = some (.string ⟨l[i].key.toArray⟩) := keep_cell hB.out (hce 0 _ rfl)
      have d1 : wr.cell? ⟨b0, o0 + i * 7 + 1, none⟩ = some (.bool l[i].del) := keep_cell hB.out (hce 1 _ rfl)
      have d2 : wr.cell? ⟨b0, o0 + i * 7 + 2, none⟩ = some (.int .u64 l[i].tx) := keep_cell hB.out (hce 2 _ rfl)
      have d3 : wr.cell? ⟨b0, o0 + i * 7 + 3, none⟩ = some (.int .u32 l[i].page) := keep_cell hB.out (hce 3 _ rfl)
      have d4 : wr.cell? ⟨b0, o0 + i * 7 + 4, none⟩ = some (.int .u16 l[i].slot) := keep_cell hB.out (hce 4 _ rfl)
      have d5 : wr.cell? ⟨b0, o0 + i * 7 + 5, none⟩ = some (.string ⟨l[i].val.toArray⟩) := keep_cell hB.out (hce 5 _ rfl)
      have d6 : wr.cell? ⟨b0, o0 + i * 7 + 6, none⟩ = some (.int .i64 l[i].pad) := keep_cell hB.out (hce 6 _ rfl)
      clear hcell hce hE
      generalize l[i].enc = t at *
      generalize l[i] = r at *
      obtain ⟨rk, rd, rt, rp, rs, rv, rpad⟩ := r
      simp only at *
      go_wp2_with fail
      refine (CE.out _).mono ?_
      rintro e w1 ⟨rfl, hb1⟩
      have O1 := Lib.hid (own_below hO.out hb1)
      have P2 := Lib.hid (hP.out.below hb1)
      have Q2 := Lib.hid (hQ.out.below hb1)
      have B1 := Lib.hid (below_then hB.out hb1)
      have hs2 : w0.heap.size ≤ w1.heap.size := Nat.le_trans hs1 hb1.size
      clear hb1 d0 d1 d2 d3 d4 d5 d6
      obtain ⟨x0, x1, x2, x3, x4, x5, x6⟩ := P2.out.cells
      go_wp2_with (at_builtin; refine wpList_append_own _ rfl _ _ 24 rfl w0.heap.size 9 i0 (.string ⟨#[]⟩) 1 16 Try.underlying24 HI.out HI0.out HI1.out HI2.out rfl (by decide) _ _ _ (by rfl) (O1.out.alloc _) ⟨w1.heap.size, 0, none⟩ 1 1 [.string ⟨t.toArray⟩] (by rfl) rfl (one_new _ _ _) (one_str _) (by unfold maxLen; omega) (by omega) (by simp; omega) ?_; intro v' w5 hown5 hgrow5 hnil5; clear hnil5; rw [HT.out] at hown5; obtain ⟨b5, c5, rfl, _, _, _⟩ := own_form hown5; have HO5 := Lib.hid hown5; have B5 := Lib.hid ((B1.out.alloc B1.out.size (.cells #[.string ⟨t.toArray⟩] 9)).grown hgrow5 (by have := B1.out.size; simp; omega) (fun j hj => by have := (O1.out.lt j hj).1; omega)); have P5 := Lib.hid ((P2.out.keep _).grown hgrow5 (fun h => by have := (O1.out.lt _ h.symm).1; omega)); have Q5 := Lib.hid ((Q2.out.keep _).grown hgrow5 (fun h => by have := (O1.out.lt _ h.symm).1; omega)); have hs5 : w0.heap.size ≤ w5.heap.size := (by have h9 := hgrow5.size; simp at h9; omega); obtain ⟨y0, y1, y2, y3, y4, y5, y6⟩ := P5.out.cells; obtain ⟨f0, f1, f2, f3, f4, f5⟩ := P5.out.fr; clear hown5 hgrow5)
      have O6 := Lib.hid (own_set_far (g := w.heap.size + 1) (i := 5) (u := .slice b5 (i + 1) c5) HO5.out (fun j hj => by have := (HO5.out.lt j hj).1; omega))
      have P6 := Lib.hid (P5.out.set5 (.slice b5 (i + 1) c5))
      have Q6 := Lib.hid (Q5.out.kept (one_kept w5 (w.heap.size + 1) 5 (.slice b5 (i + 1) c5)) (by omega))
      have B6 := Lib.hid (OthersKept.below B5.out (one_kept w5 (w.heap.size + 1) 5 (.slice b5 (i + 1) c5)) (fun k hk e => by omega))
      have hs6 : w0.heap.size ≤ (w5.setCell ⟨w.heap.size + 1, 5, none⟩ (.slice b5 (i + 1) c5)).heap.size := Nat.le_trans hs5 (one_kept w5 (w.heap.size + 1) 5 (.slice b5 (i + 1) c5)).size
      go_wp2_with fail
      go_roundw
      case rel => exact ⟨i + 1, _, by go_num, by omega, O6, P6, Q6, B6, hs6⟩
      case measure => simp [intOf]; omega
    · have hci : ¬ (i : Int) < (n : Int) := by omega
      have hin : (l.take i).map Rw.enc = l.map Rw.enc := by rw [List.take_of_length_le]; rw [← HN.out]; omega
      rw [hin] at hO
      obtain ⟨x0, x1, x2, x3, x4, x5, x6⟩ := hP.out.cells
      obtain ⟨y0, y1, y2, y3, y4, y5, y6⟩ := hQ.out.cells
      obtain ⟨f0, f1, f2, f3, f4, f5⟩ := hQ.out.fr
      have XB := Lib.hid (hQ.out.put 1 0 5 0 9 (.slice b1 i c1))
      have hk6 := setPg_kept wr w.heap.size 1 0 5 0 9 (.slice b1 i c1)
      have XK := Lib.hid (OthersKept.below hB.out hk6 (fun k hk e => by omega))
      have XO := Lib.hid (texts_own (hk6.owns hO.out (fun j hj e => by have := (hO.out.lt j hj).1; omega))).1
      clear hk6 hin
      go_wp2_with fail
      refine bodyPost_ret (v := .agg #[.int .u8 (1 : Nat), .int .u8 (0 : Nat), .int .u32 (5 : Nat), .int .u64 (0 : Nat), .int .u32 (9 : Nat), .slice b1 i c1]) (results_cell_row (p := 2) (by kernel_rfl) _ _ w.heap.size 45 _ (0, 0) _ rfl XB.out Try.underlying45 rfl (by kernel_rfl)) rfl ?_
      exact ⟨_, rfl, XO.out, XK.out⟩

end Go.Proofs.Ytjcfnfpilladfaa

namespace Go.Proofs.Ytjcfnfpilladfaa
open Go.RowKit
set_option linter.unusedVariables false
set_option linter.unusedSimpArgs false

/-- An entry as data. -/
structure En where
  key : List UInt8
  child : Nat
def En.enc (r : En) : List UInt8 := if mayEnt r.key.length r.child then encEnt r.key r.child else []
def En.wf (r : En) : Prop := r.key.length ≤ maxLen
def En.cell (r : En) : List Value := [.string ⟨r.key.toArray⟩, .int .u32 r.child]
def EntsAt (w : World) (sv : Value) (l : List En) : Prop :=
  ∃ A cp, sv = .slice A l.length cp ∧ l.length ≤ cp ∧ cp ≤ maxLen ∧ (0 < l.length → ∃ b o, A = some ⟨b, o, none⟩ ∧ b < w.heap.size ∧ ∀ j (h : j < l.length), ∀ i v, l[j].cell[i]? = some v → w.cell? ⟨b, o + j * 2 + i, none⟩ = some v)
theorem En.encode (r : En) (h : r.wf) : ∃ er : Int, ∀ W, Calls Try.prog 90 #[.agg #[.string ⟨r.key.toArray⟩, .int .u32 r.child]] W fun e w' => e = .returned (.tuple #[.string ⟨r.enc.toArray⟩, .int .i64 er]) ∧ Below W.heap.size W w' := by
  have hs : (⟨r.key.toArray⟩ : ByteArray).size = r.key.length := by simp [ByteArray.size]
  cases hm : mayEnt r.key.length r.child with
  | true =>
    refine ⟨0, fun W => ?_⟩
    have := refEntEncode_yes ⟨r.key.toArray⟩ r.child W (by rw [hs]; exact hm)
    unfold En.enc
    rw [if_pos hm]
    exact this
  | false =>
    refine ⟨2, fun W => ?_⟩
    have := refEntEncode_no ⟨r.key.toArray⟩ r.child W (by rw [hs]; exact h) (by rw [hs]; exact hm)
    unfold En.enc
    rw [if_neg (by rw [hm]; simp)]
    exact this
def innerPg (l : List En) : Pg := ⟨2, 1, 6, 0, 0, l.map En.enc⟩
set_option maxHeartbeats 2000000 in
set_option maxRecDepth 100000 in
theorem inner_any (sv : Value) (l : List En) (w : World) (hr : EntsAt w sv l) (hw : ∀ r ∈ l, r.wf) (hl : l.length ≤ 1000000) :
    Calls Try.prog 54 #[sv] w (PgOnly w (innerPg l)) := by
  obtain ⟨A, cp, hsv, h2, h3, h5⟩ := hr
  obtain ⟨n, hn⟩ : ∃ n, n = l.length := ⟨_, rfl⟩
  rw [← hn] at hsv h2 hl
  subst hsv
  unfold maxLen at h3
  have H5 := Lib.hid h5
  have HN := Lib.hid hn
  have HW := Lib.hid hw
  clear h5 hn hw
  obtain ⟨i0, hif, hz0, hz1, hz2⟩ := info_parts Try.infoStr
  have HI := Lib.hid hif
  have HI0 := Lib.hid hz0
  have HI1 := Lib.hid hz1
  have HI2 := Lib.hid hz2
  clear hif hz0 hz1 hz2
  have P0 := Lib.hid ((PgBox.new w 0 0 0 0 0 (.slice none 0 0)).keep (.cells #[.int .u8 2, .int .u8 1, .int .u32 6, .int .u64 0, .int .u32 0, .slice none 0 0] 45))
  have P1 := Lib.hid (PgBox.new (w.alloc (.cells #[.int .u8 0, .int .u8 0, .int .u32 0, .int .u64 0, .int .u32 0, .slice none 0 0] 45)) 2 1 6 0 0 (.slice none 0 0))
  have hz1 : (w.alloc (.cells #[.int .u8 0, .int .u8 0, .int .u32 0, .int .u64 0, .int .u32 0, .slice none 0 0] 45)).heap.size = w.heap.size + 1 := by simp
  rw [hz1] at P1
  clear hz1
  have B0 := Lib.hid ((alloc_below w (.cells #[.int .u8 0, .int .u8 0, .int .u32 0, .int .u64 0, .int .u32 0, .slice none 0 0] 45)).alloc (by simp) (.cells #[.int .u8 2, .int .u8 1, .int .u32 6, .int .u64 0, .int .u32 0, .slice none 0 0] 45))
  go_enter Try.func54, Try.ntmps54
  go_wp2_with fail
  generalize (w.alloc (.cells #[.int .u8 0, .int .u8 0, .int .u32 0, .int .u64 0, .int .u32 0, .slice none 0 0] 45)).alloc (.cells #[.int .u8 2, .int .u8 1, .int .u32 6, .int .u64 0, .int .u32 0, .slice none 0 0] 45) = w0 at *
  have hs0 := P1.out.lt
  go_loopw [4] (fun s4 wr => ∃ (i : Nat) (v : Value), s4 = .int .i64 i ∧ i ≤ n ∧ Hid (wr.ownsRow w0.heap.size 9 1 v i (strs ((l.take i).map En.enc))) ∧ Hid (PgBox wr (w.heap.size + 1) 2 1 6 0 0 v) ∧ Hid (PgBox wr w.heap.size 0 0 0 0 0 (.slice none 0 0)) ∧ Hid (Below w.heap.size w wr) ∧ w0.heap.size ≤ wr.heap.size) (fun v _ => n - (intOf v).toNat)
  case atStart => exact ⟨0, _, rfl, Nat.zero_le _, Lib.hid (World.ownsRow_nil _ _ _ _), P1, P0, B0, Nat.le_refl _⟩
  case round =>
    obtain ⟨i, v, rfl, hi, hO, hP, hQ, hB, hs1⟩ := hrel
    obtain ⟨b1, c1, hv, hc1, hc2, _⟩ := own_form hO.out
    subst hv
    unfold maxLen at hc2
    by_cases hc : i < n
    · have hci : (i : Int) < (n : Int) := by omega
      have hia : i < l.length := by rw [← HN.out]; exact hc
      obtain ⟨b0, o0, rfl, _, hcell⟩ := H5.out (by omega)
      have q1 : (0 : Int) ≤ (i : Int) := by omega
      have hce := hcell i hia
      obtain ⟨er, hE⟩ := En.encode l[i] (HW.out _ (List.getElem_mem hia))
      have CE := Lib.hid hE
      have HT : Hid (strs ((l.take i).map En.enc) ++ [.string ⟨(l[i].enc).toArray⟩] = strs ((l.take (i + 1)).map En.enc)) := by
        show _ = _
        unfold strs
        rw [List.take_succ_eq_append_getElem hia, List.map_append, List.map_append]
        rfl
      have d0 : wr.cell? ⟨b0, o0 + i * 2, none⟩ = some (.string ⟨l[i].key.toArray⟩) := keep_cell hB.out (hce 0 _ rfl)
      have d1 : wr.cell? ⟨b0, o0 + i * 2 + 1, none⟩ = some (.int .u32 l[i].child) := keep_cell hB.out (hce 1 _ rfl)
      clear hcell hce hE
      generalize l[i].enc = t at *
      generalize l[i] = r at *
      obtain ⟨rk, rc⟩ := r
      simp only at *
      go_wp2_with fail
      refine (CE.out _).mono ?_
      rintro e w1 ⟨rfl, hb1⟩
      have O1 := Lib.hid (own_below hO.out hb1)
      have P2 := Lib.hid (hP.out.below hb1)
      have Q2 := Lib.hid (hQ.out.below hb1)
      have B1 := Lib.hid (below_then hB.out hb1)
      have hs2 : w0.heap.size ≤ w1.heap.size := Nat.le_trans hs1 hb1.size
      clear hb1 d0 d1
      obtain ⟨x0, x1, x2, x3, x4, x5, x6⟩ := P2.out.cells
      go_wp2_with (at_builtin; refine wpList_append_own _ rfl _ _ 24 rfl w0.heap.size 9 i0 (.string ⟨#[]⟩) 1 16 Try.underlying24 HI.out HI0.out HI1.out HI2.out rfl (by decide) _ _ _ (by rfl) (O1.out.alloc _) ⟨w1.heap.size, 0, none⟩ 1 1 [.string ⟨t.toArray⟩] (by rfl) rfl (one_new _ _ _) (one_str _) (by unfold maxLen; omega) (by omega) (by simp; omega) ?_; intro v' w5 hown5 hgrow5 hnil5; clear hnil5; rw [HT.out] at hown5; obtain ⟨b5, c5, rfl, _, _, _⟩ := own_form hown5; have HO5 := Lib.hid hown5; have B5 := Lib.hid ((B1.out.alloc B1.out.size (.cells #[.string ⟨t.toArray⟩] 9)).grown hgrow5 (by have := B1.out.size; simp; omega) (fun j hj => by have := (O1.out.lt j hj).1; omega)); have P5 := Lib.hid ((P2.out.keep _).grown hgrow5 (fun h => by have := (O1.out.lt _ h.symm).1; omega)); have Q5 := Lib.hid ((Q2.out.keep _).grown hgrow5 (fun h => by have := (O1.out.lt _ h.symm).1; omega)); have hs5 : w0.heap.size ≤ w5.heap.size := (by have h9 := hgrow5.size; simp at h9; omega); obtain ⟨y0, y1, y2, y3, y4, y5, y6⟩ := P5.out.cells; obtain ⟨f0, f1, f2, f3, f4, f5⟩ := P5.out.fr; clear hown5 hgrow5)
      have O6 := Lib.hid (own_set_far (g := w.heap.size + 1) (i := 5) (u := .slice b5 (i + 1) c5) HO5.out (fun j hj => by have := (HO5.out.lt j hj).1; omega))
      have P6 := Lib.hid (P5.out.set5 (.slice b5 (i + 1) c5))
      have Q6 := Lib.hid (Q5.out.kept (one_kept w5 (w.heap.size + 1) 5 (.slice b5 (i + 1) c5)) (by omega))
      have B6 := Lib.hid (OthersKept.below B5.out (one_kept w5 (w.heap.size + 1) 5 (.slice b5 (i + 1) c5)) (fun k hk e => by omega))
      have hs6 : w0.heap.size ≤ (w5.setCell ⟨w.heap.size + 1, 5, none⟩ (.slice b5 (i + 1) c5)).heap.size := Nat.le_trans hs5 (one_kept w5 (w.heap.size + 1) 5 (.slice b5 (i + 1) c5)).size
      go_wp2_with fail
      go_roundw
      case rel => exact ⟨i + 1, _, by go_num, by omega, O6, P6, Q6, B6, hs6⟩
      case measure => simp [intOf]; omega
    · have hci : ¬ (i : Int) < (n : Int) := by omega
      have hin : (l.take i).map En.enc = l.map En.enc := by rw [List.take_of_length_le]; rw [← HN.out]; omega
      rw [hin] at hO
      obtain ⟨x0, x1, x2, x3, x4, x5, x6⟩ := hP.out.cells
      obtain ⟨y0, y1, y2, y3, y4, y5, y6⟩ := hQ.out.cells
      obtain ⟨f0, f1, f2, f3, f4, f5⟩ := hQ.out.fr
      have XB := Lib.hid (hQ.out.put 2 1 6 0 0 (.slice b1 i c1))
      have hk6 := setPg_kept wr w.heap.size 2 1 6 0 0 (.slice b1 i c1)
      have XK := Lib.hid (OthersKept.below hB.out hk6 (fun k hk e => by omega))
      have XO := Lib.hid (texts_own (hk6.owns hO.out (fun j hj e => by have := (hO.out.lt j hj).1; omega))).1
      clear hk6 hin
      go_wp2_with fail
      refine bodyPost_ret (v := .agg #[.int .u8 (2 : Nat), .int .u8 (1 : Nat), .int .u32 (6 : Nat), .int .u64 (0 : Nat), .int .u32 (0 : Nat), .slice b1 i c1]) (results_cell_row (p := 2) (by kernel_rfl) _ _ w.heap.size 45 _ (0, 0) _ rfl XB.out Try.underlying45 rfl (by kernel_rfl)) rfl ?_
      exact ⟨_, rfl, XO.out, XK.out⟩

end Go.Proofs.Ytjcfnfpilladfaa
