/- Kept of our texts for this claim: OpRows OpFold -/
import Derived.Test.YtienlhnbmobinaaGreatRows
import Derived.Test.YtienlhnbmobinaaGreatAdAl
import Derived.Test.YtienlhnbmobinaaGreatAdAk
import Derived.Test.YtienlhnbmobinaaGreatAdAb
import Derived.Test.YtienlhnbmobinaaGreatAdAc
import Derived.Deep.CutBlock
import Derived.Deep.RegionLaw
import Derived.WalkKit
import Derived.WalkLawsBesides
import Derived.WalkSpells
import Derived.LoopTactic
import Derived.WalkMore
import Derived.LoopN
import Derived.Laws.BitsAllLaws
import Derived.Laws.IdiomStrings
import Derived.BigQuiet
import Derived.Deep.QuietTactic
import Derived.Deep.DeepCutAuto
import Derived.Deep.RegionHeld3
import Derived.Deep.DrawnRows
import Derived.Lib.Hide
import Derived.Outline
import Derived.Deep.DeepMust
import Derived.Handy
section
/- chapter 11: an op's rows gone through -/
namespace Go.Proofs.YtienlhnbmobinaaGreat
open Go.RowKit
set_option linter.unusedVariables false
set_option linter.unusedSimpArgs false
theorem piece_grow (c : Cd) (t : List UInt8) (h : (c.piece t).bad = false) : (c.piece t).s.length ≤ c.s.length + 2 + (c.pieceV t).length ∧ (c.piece t).at_ ≤ c.at_ + 2 + (c.pieceV t).length ∧ (c.piece t).o = c.o ∧ (c.piece t).rd = c.rd := by
  obtain ⟨o, s, at_, rd, bad⟩ := c
  cases rd with
  | false =>
    refine ⟨?_, by show at_ ≤ at_ + 2 + _; omega, rfl, rfl⟩
    simp only [Cd.piece, Cd.pieceV, Cd.num, Cd.numS, Bool.false_eq_true, if_false]
    rw [List.length_append, List.length_append]
    split
    · rw [be_length]; omega
    · simp
  | true =>
    have h2 : at_ + 2 + rdNum s at_ 2 ≤ s.length := by
      simp only [Cd.piece, if_true, Bool.or_eq_false_iff, Bool.not_eq_false', decide_eq_true_eq] at h
      exact h.2
    refine ⟨by simp [Cd.piece]; omega, ?_, rfl, rfl⟩
    simp only [Cd.piece, Cd.pieceV, if_true]
    have : (rdText s (at_ + 2) (rdNum s at_ 2)).length = rdNum s at_ 2 := by
      unfold rdText
      rw [if_pos h2, List.length_take, List.length_drop]
      omega
    omega
/-- The coder behind one of the rows. -/
def Cd.row (c : Cd) (i : Nat) : Cd := (c.piece (c.o.rows.getD i [])).set { c.o with rows := if c.rd then c.o.rows ++ [c.pieceV (c.o.rows.getD i [])] else c.o.rows }
theorem rowsGo_stop (k i all : Nat) (c : Cd) (h : ((c.row i).bad || decide (488 < all + (c.pieceV (c.o.rows.getD i [])).length)) = true) : Cd.rowsGo (k + 1) i all c = ⟨(c.row i).o, (c.row i).s, (c.row i).at_, (c.row i).rd, true⟩ := by
  unfold Cd.rowsGo
  exact if_pos h
theorem rowsGo_on (k i all : Nat) (c : Cd) (h : ((c.row i).bad || decide (488 < all + (c.pieceV (c.o.rows.getD i [])).length)) = false) : Cd.rowsGo (k + 1) i all c = Cd.rowsGo k (i + 1) (all + (c.pieceV (c.o.rows.getD i [])).length) (c.row i) := by
  rw [Cd.rowsGo]
  exact if_neg (by rw [show ((((c.piece (c.o.rows.getD i [])).set { c.o with rows := if c.rd then c.o.rows ++ [c.pieceV (c.o.rows.getD i [])] else c.o.rows }).bad || decide (488 < all + (c.pieceV (c.o.rows.getD i [])).length)) = false) from h]; simp)
theorem row_o (c : Cd) (i : Nat) : (c.row i).o = { c.o with rows := if c.rd then c.o.rows ++ [c.pieceV (c.o.rows.getD i [])] else c.o.rows } := rfl
theorem rows_set {c : Cd} {i n : Nat} (h : if c.rd then c.o.rows.length = i else n = c.o.rows.length) (hi : i < n) :
    (if c.rd then c.o.rows ++ [[]] else c.o.rows).set i (c.pieceV (c.o.rows.getD i [])) = (c.row i).o.rows := by
  rw [row_o]
  cases hr : c.rd with
  | true =>
    rw [hr] at h
    simp only [if_true] at h ⊢
    subst h
    simp
  | false =>
    rw [hr] at h
    simp only [Bool.false_eq_true, if_false] at h ⊢
    have hv : c.pieceV (c.o.rows.getD i []) = c.o.rows.getD i [] := by simp [Cd.pieceV, hr]
    rw [hv, List.getD_eq_getElem?_getD, List.getElem?_eq_getElem (by omega)]
    simp
theorem strs_set (ts : List (List UInt8)) (i : Nat) (v : List UInt8) : (strs ts).set i (.string ⟨v.toArray⟩) = strs (ts.set i v) := by
  unfold strs
  rw [List.map_set]
theorem KAt.put_b {w : World} {gk go : Nat} {c : Cd} (h : KAt w gk go c) (X : Bool) : KAt (w.setCell ⟨gk, 4, none⟩ (.bool X)) gk go ⟨c.o, c.s, c.at_, c.rd, X⟩ := by
  unfold KAt at *
  have h2 := blk_set h 4 (.bool X)
  simpa using h2
theorem pieceV_le (c : Cd) (t : List UInt8) (h : t.length ≤ 65535) : (c.pieceV t).length ≤ 65535 := by
  unfold Cd.pieceV
  split
  · have := rdNum_lt c.s c.at_ 2
    simp only [Nat.reducePow] at this
    unfold rdText
    split
    · rw [List.length_take]; omega
    · simp
  · exact h
theorem own_apart {w : World} {m gk go n : Nat} {c : Cd} {o : Od} {sv v : Value} {xs : List Value} (hk : KAt w gk go c) (ho : OAt w go o sv) (h : w.ownsRow m 9 1 v n xs) : ∀ j, v.ownBlock = some j → j ≠ gk ∧ j ≠ go := by
  intro j hj
  rcases h.2 with ⟨rfl, _⟩ | ⟨g, cap, cur, rfl, _, hg, _⟩
  · cases hj
  · injection hj with hj
    subst hj
    unfold KAt at hk
    unfold OAt at ho
    refine ⟨fun e => ?_, fun e => ?_⟩
    · simp only at e
      rw [e, hk] at hg
      simp at hg
    · simp only at e
      rw [e, ho] at hg
      simp at hg
theorem OAt.put5 {w : World} {go : Nat} {o : Od} {sv : Value} (h : OAt w go o sv) (v : Value) : OAt (w.setCell ⟨go, 5, none⟩ v) go o v := by
  unfold OAt at *
  have h2 := blk_set h 5 v
  simpa using h2
theorem kept_below {w0 w w' : World} {m gk g : Nat} (h : OthersKept w w' (fun k => k = gk ∨ k = g)) (hb : Below m w0 w) (h1 : m ≤ gk) (h2 : m ≤ g) (hm : m ≤ w.heap.size) : Below m w0 w' := hb.trans ⟨h.os, h.tape, h.output, h.size, fun k hk => h.block k (by omega) (fun e => by omega)⟩
/-- What the loop over an op's rows keeps. -/
structure RowsNow (w wr : World) (m gk go n : Nat) (c1 c : Cd) (i all : Nat) : Prop where
  at_ : CAt wr m gk go c
  below : Below m w wr
  le : i ≤ n
  same : Cd.rowsGo n 0 0 c1 = Cd.rowsGo (n - i) i all c
  bad : c.bad = false
  sum : all ≤ 488
  bytes : c.s.length ≤ 700002 + 2 * i + all
  place : c.at_ ≤ 700002 + 2 * i + all
  rows : if c.rd then c.o.rows.length = i else n = c.o.rows.length
  texts : ∀ r ∈ c.o.rows, r.length ≤ 65535
  size : m ≤ wr.heap.size
set_option maxHeartbeats 4000000 in
set_option maxRecDepth 100000 in
theorem part_rows (w : World) (m gk go : Nat) (c : Cd) (h : CAt w m gk go c) (hm : m ≤ w.heap.size) (hc : c.ok 700000) (hr0 : c.rd = true → c.o.rows = []) :
    Calls Tryz.prog 102 #[.pointer (some ⟨gk, 0, none⟩)] w (PartPost w m gk go (Part.run .rows c)) := by
  obtain ⟨hk, hgg, h1, h2, sv, ho, hr, hd⟩ := h
  obtain ⟨hc1, hc2, hc3, hc4, hc5, hc6⟩ := hc
  obtain ⟨L, hL⟩ : ∃ L, L = c.o.rows.length := ⟨_, rfl⟩
  have hrr := hr
  obtain ⟨sb, scp, hsv, _, _, _⟩ := own_form hr
  rw [← hL] at hsv hc3
  subst hsv
  have HL := Lib.hid hL
  clear hL
  have kl := hk.cells.1
  have k0 := hk.cells.2.1
  have gl : go < w.heap.size := blk_lt ho
  have o5 : w.cell? ⟨go, 5, none⟩ = some (.slice sb L scp) := by rw [blk_cell ho]; rfl
  have hA := alloc_below w (.cells #[.int .i64 (L : Int)] 3)
  have hN : (w.alloc (.cells #[.int .i64 (L : Int)] 3)).heap[w.heap.size]? = some (.cells #[.int .i64 (L : Int)] 3 (0, 0)) := heap_alloc_new w _
  have NU := Lib.hid (num_i64 (w.alloc (.cells #[.int .i64 (L : Int)] 3)) gk go w.heap.size 0 c #[.int .i64 (L : Int)] 3 488 (L : Int) (hk.below hA) hN rfl (by omega) ⟨by omega, by omega⟩ (by omega) (by omega) (by omega))
  have HO := Lib.hid ((hA.block _ gl).trans ho)
  have HR := Lib.hid (own_below hr hA)
  have HA := Lib.hid hA
  have HD := Lib.hid hd
  have HRR := Lib.hid hrr
  obtain ⟨i0, hif, hz0, hz1, hz2⟩ := info_parts (P := Tryz.prog) (e := 9) (z := .string ⟨#[]⟩) (size := 1) (bytes := 16) (by kernel_rfl)
  have HI := Lib.hid hif
  have HI0 := Lib.hid hz0
  have HI1 := Lib.hid hz1
  have HI2 := Lib.hid hz2
  clear hN hA hk ho hr hd hrr hif hz0 hz1 hz2
  go_enter Tryz.func102, Tryz.ntmps102
  go_wp2_with fail
  generalize w.alloc (.cells #[.int .i64 (L : Int)] 3) = w0 at *
  refine NU.out.mono ?_
  rintro e w1 ⟨rfl, hk, hn, hkp⟩
  clear NU k0 o5
  have C1 : Hid (CAt w1 m gk go (c.num 2 488 (L : Int))) := ⟨hk, hgg, h1, h2, _, hkp.heap HO.out (fun e => by omega), hkp.owns HR.out (fun j hj e => by have h8 := HD.out j hj; have h9 := (HRR.out.lt j hj).2; omega), HD.out⟩
  have B1 : Hid (Below m w w1) := ⟨hkp.os.trans HA.out.os, hkp.tape.trans HA.out.tape, hkp.output.trans HA.out.output, Nat.le_trans HA.out.size hkp.size, fun k hk => (hkp.block k (by have := HA.out.size; omega) (fun e => by omega)).trans (HA.out.block k (by omega))⟩
  have K1 := Lib.hid hk
  have N1 := Lib.hid hn
  clear hk hn hkp HO HR HA HD
  obtain ⟨n, hn⟩ : ∃ n, n = (c.numV 2 (L : Int)).toNat := ⟨_, rfl⟩
  have n1 : w1.cell? ⟨w.heap.size, 0, none⟩ = some (.int .i64 (n : Nat)) := by
    rw [blk_cell N1.out, hn, ← numV_u]
    rfl
  have PR : Hid (Part.run .rows c = if (c.num 2 488 (L : Int)).bad then c.num 2 488 (L : Int) else Cd.rowsGo n 0 0 (c.num 2 488 (L : Int))) := by
    show _ = _
    rw [hn, HL.out]
    rfl
  have hs1 : (c.num 2 488 (L : Int)).s.length ≤ 700002 := by
    simp only [Cd.num, Cd.numS]
    split
    · omega
    · rw [List.length_append]
      split
      · rw [be_length]; omega
      · simp; omega
  have ha1 : (c.num 2 488 (L : Int)).at_ ≤ 700002 := by
    simp only [Cd.num, Cd.numA]
    split <;> omega
  have hrows : (c.num 2 488 (L : Int)).bad = false → if (c.num 2 488 (L : Int)).rd then (c.num 2 488 (L : Int)).o.rows.length = 0 else n = (c.num 2 488 (L : Int)).o.rows.length := fun hb => by
    show if c.rd then c.o.rows.length = 0 else n = c.o.rows.length
    cases hr : c.rd with
    | true => rw [hr0 hr]; rfl
    | false =>
      simp only [Bool.false_eq_true, if_false]
      rw [hn, ← HL.out]
      simp [Cd.numV, hr]
  have hn488 : (c.num 2 488 (L : Int)).bad = false → n ≤ 488 := fun hb => by
    simp only [Cd.num, Cd.numX, Bool.or_eq_false_iff, Bool.not_eq_false'] at hb
    rw [hn]
    unfold Cd.numV
    cases hr : c.rd with
    | true =>
      have h2 := hb.2
      rw [hr] at h2
      simp only [if_true, Bool.and_eq_true, decide_eq_true_eq] at h2
      simp only [if_true]
      omega
    | false =>
      have h2 := hb.2
      rw [hr] at h2
      simp only [Bool.false_eq_true, if_false, decide_eq_true_eq] at h2
      simp only [Bool.false_eq_true, if_false]
      omega
  have htx : ∀ r ∈ (c.num 2 488 (L : Int)).o.rows, r.length ≤ 65535 := hc4
  have HS1 := Lib.hid hs1
  have HA1 := Lib.hid ha1
  have HROWS := Lib.hid hrows
  have HTX := Lib.hid htx
  clear hn hs1 ha1 hrows htx N1 HL hc4 hc5 hc6 hc1 hc2 hr0
  generalize c.num 2 488 (L : Int) = c1 at *
  generalize Part.run .rows c = cR at *
  obtain ⟨l0, l1, l2, l3, l4, l5⟩ := K1.out.cells
  cases hb : c1.bad with
  | true =>
    rw [hb] at l5
    have hPR := PR.out
    rw [hb, if_pos rfl] at hPR
    subst hPR
    clear PR
    go_wp2_with fail
    (try simp only [Exit.inBlock, Exit.then])
    refine bodyPost_ret (results_none rfl _ _ _) rfl ?_
    exact ⟨rfl, C1.out, B1.out⟩
  | false =>
    rw [hb] at l5
    have hPR := PR.out
    rw [hb] at hPR
    simp only [Bool.false_eq_true, if_false] at hPR
    have HPR := Lib.hid hPR
    have hn4 := hn488 hb
    have RN : Hid (RowsNow w w1 m gk go n c1 c1 0 0) := ⟨C1.out, B1.out, Nat.zero_le _, rfl, hb, by omega, by have := HS1.out; omega, by have := HA1.out; omega, HROWS.out hb, HTX.out, Nat.le_trans hm B1.out.size⟩
    clear hPR PR hn488 HROWS HTX HS1 HA1 C1
    go_wp2_with fail
    go_loopw [3, 20] (fun s3 s20 wr => ∃ (i all : Nat) (c2 : Cd), s3 = .int .i64 all ∧ s20 = .int .i64 i ∧ Hid (RowsNow w wr m gk go n c1 c2 i all)) (fun _ v _ => n - (intOf v).toNat)
    case atStart => exact ⟨0, 0, c1, rfl, rfl, RN⟩
    case round =>
      obtain ⟨i, all, c2, rfl, rfl, hNow⟩ := hrel
      by_cases hc : i < n
      · have hci : (i : Int) < (n : Int) := by omega
        obtain ⟨⟨hk2, _, _, _, sv2, ho2, hr2, hd2⟩, hbel, hle, hsame, hbad, hsum, hbytes, hplace, hrw, htx2, hsz2⟩ := hNow.out
        obtain ⟨k, hk⟩ : ∃ k, n - i = k + 1 := ⟨n - i - 1, by omega⟩
        rw [hk] at hsame
        have hkk : k = n - (i + 1) := by omega
        have hPR2 := HPR.out.trans hsame
        obtain ⟨t, ht⟩ : ∃ t, t = c2.o.rows.getD i [] := ⟨_, rfl⟩
        have htl : t.length ≤ 65535 := by
          rw [ht, List.getD_eq_getElem?_getD]
          cases hg : c2.o.rows[i]? with
          | none => simp
          | some r => exact htx2 r (List.mem_of_getElem? hg)
        obtain ⟨X, hX⟩ : ∃ X, X = if c2.rd then c2.o.rows ++ [[]] else c2.o.rows := ⟨_, rfl⟩
        have hset := rows_set hrw hc
        rw [← hX, ← ht] at hset
        have hXi : X[i]? = some t := by
          rw [hX, ht]
          cases hr : c2.rd with
          | true =>
            rw [hr] at hrw
            simp only [if_true] at hrw ⊢
            clear hset
            subst hrw
            simp
          | false =>
            rw [hr] at hrw
            simp only [Bool.false_eq_true, if_false] at hrw ⊢
            rw [List.getD_eq_getElem?_getD, List.getElem?_eq_getElem (by omega)]
            rfl
        have HK2 := Lib.hid hk2
        have HO2 := Lib.hid ho2
        have HR2 := Lib.hid hr2
        have HD2 := Lib.hid hd2
        have HPR2 := Lib.hid hPR2
        have HX := Lib.hid hX
        have HT := Lib.hid ht
        have HSET := Lib.hid hset
        have HBEL := Lib.hid hbel
        have HRW := Lib.hid hrw
        have HTX2 := Lib.hid htx2
        clear hk2 ho2 hr2 hd2 hPR2 hset hbel hrw htx2 hsame hk hX ht hNow
        obtain ⟨r0, r1, r2, r3, r4, r5⟩ := HK2.out.cells
        go_upto_if 26 with fail
        go_cut [20] (fun s20 w' => s20 = .int .i64 i ∧ ∃ sv', Hid (KAt w' gk go c2) ∧ Hid (OAt w' go c2.o sv') ∧ Hid (w'.ownsRow m 9 1 sv' X.length (strs X)) ∧ Hid (∀ j, sv'.ownBlock = some j → j ≠ gk ∧ j ≠ go) ∧ Hid (Below m wr w') ∧ m ≤ w'.heap.size)
        case first =>
          cases hrd : c2.rd with
          | false =>
            rw [hrd] at r4
            have hX := HX.out
            rw [hrd] at hX
            simp only [Bool.false_eq_true, if_false] at hX
            have HX2 := Lib.hid hX
            clear hX
            go_wp2_with fail
            go_meet
            exact ⟨rfl, sv2, HK2, HO2, by rw [HX2.out]; exact HR2, HD2, Lib.hid (Below.refl _ _), hsz2⟩
          | true =>
            rw [hrd] at r4
            have hX := HX.out
            rw [hrd] at hX
            simp only [if_true] at hX
            have hrw := HRW.out
            rw [hrd] at hrw
            simp only [if_true] at hrw
            have hr2 := HR2.out
            rw [hrw] at hr2
            obtain ⟨sb2, scp2, hsv2, hs21, hs22, _⟩ := own_form hr2
            subst hsv2
            unfold maxLen at hs22
            have B3 : Below wr.heap.size wr (wr.alloc (.cells #[.string ⟨#[]⟩] 9)).drew := ((Below.refl _ _).alloc (Nat.le_refl _) _).drew
            have HB3 := Lib.hid B3
            have HD3 := Lib.hid (own_below hr2 B3)
            have hr9 : Reads (wr.alloc (.cells #[.string ⟨#[]⟩] 9)) (.slice (some ⟨wr.heap.size, 0, none⟩) 1 1) 1 1 [.string ⟨#[]⟩] := .inr ⟨_, 1, rfl, rfl, one_new _ _ _⟩
            have HR3 : Hid (Reads (wr.alloc (.cells #[.string ⟨#[]⟩] 9)).drew (.slice (some ⟨wr.heap.size, 0, none⟩) 1 1) 1 1 [.string ⟨#[]⟩]) := Lib.hid (hr9.below ((Below.refl _ _).drew))
            clear hr9
            have HKL := Lib.hid (blk_lt HK2.out)
            have hb6 : Hid (m ≤ (wr.alloc (.cells #[.string ⟨#[]⟩] 9)).drew.heap.size) := by
              show _ ≤ _
              simp
              omega
            have HX2 : Hid (strs c2.o.rows ++ [.string ⟨#[]⟩] = strs X ∧ i + 1 = X.length) := by
              show _ ∧ _
              rw [hX, strs_append, List.length_append, hrw]
              exact ⟨rfl, rfl⟩
            have ro5 : wr.cell? ⟨go, 5, none⟩ = some (.slice sb2 i scp2) := by rw [blk_cell HO2.out]; rfl
            have ro5b : (wr.alloc (.cells #[.string ⟨#[]⟩] 9)).cell? ⟨go, 5, none⟩ = some (.slice sb2 i scp2) := keep_cell (alloc_below wr _) ro5
            have r1b : (wr.alloc (.cells #[.string ⟨#[]⟩] 9)).cell? ⟨gk, 0, none⟩ = some (.pointer (some ⟨go, 0, none⟩)) := keep_cell (alloc_below wr _) r1
            have gowr : go < wr.heap.size := blk_lt HO2.out
            have HGL := Lib.hid gowr
            clear hX hr2 B3 hrw HRW HRR n1 l0 l1 l2 l3 l4 l5
            go_upto_region 8 with fail
            go_region_law (refine step_append_any _ rfl (.tmp 37) (.tmp 38) 24 rfl m 9 i0 (.string ⟨#[]⟩) 1 16 Tryz.underlying24 HI.out HI0.out HI1.out HI2.out rfl (by decide) (.slice sb2 i scp2) i (strs c2.o.rows) (by rfl) HD3.out (.slice (some ⟨wr.heap.size, 0, none⟩) 1 1) 1 [.string ⟨#[]⟩] (by rfl) HR3.out (one_str _) (by unfold maxLen; omega) (by omega) hb6.out ?_; intro v4 w4 ho4 hg4; rw [HX2.out.1, HX2.out.2] at ho4; have HO4 := Lib.hid ho4; obtain ⟨b4, cp4, hv4, _, _, _⟩ := own_form ho4; subst hv4; have HG4 := Lib.hid hg4; have hoo := (hg4.block go (by have := HGL.out; simp; omega) (fun e => by have := HD2.out go e.symm; omega)).trans ((HB3.out.block go HGL.out).trans HO2.out); have hkk : KAt w4 gk go c2 := (hg4.block gk (by have := HKL.out; simp; omega) (fun e => by have := HD2.out gk e.symm; omega)).trans ((HB3.out.block gk HKL.out).trans HK2.out); have k4 := hkk.cells.2.1; have c4 := blk_cell hoo 5; have f4 := blk_frozen hoo 5; have HOO := Lib.hid hoo; have HKK := Lib.hid hkk; clear ho4 hg4 hoo hkk)
            all_goals
              have KN := Lib.hid (KAt.far (i := 5) (u := .slice b4 X.length cp4) HKK.out (fun e => hgg e.symm))
              have ON := Lib.hid (OAt.put5 (sv := .slice sb2 i scp2) HOO.out (.slice b4 X.length cp4))
              have hap := own_apart HKK.out (sv := .slice sb2 i scp2) HOO.out HO4.out
              have RN2 := Lib.hid (own_set_far (g := go) (i := 5) (u := .slice b4 X.length cp4) HO4.out (fun q hq => (hap q hq).2))
              have DN := Lib.hid hap
              have BN := Lib.hid (((HB3.out.mono hsz2).grown HG4.out hb6.out (fun j hj => (HD3.out.lt j hj).1)).setCell (p := ⟨go, 5, none⟩) (by simp; omega) (.slice b4 X.length cp4))
              have hzz : m ≤ (w4.setCell ⟨go, 5, none⟩ (.slice b4 X.length cp4)).heap.size := by simp; exact Nat.le_trans hb6.out HG4.out.size
              clear hap c4 f4 k4
              go_wp2_with fail
              go_meet
              exact ⟨rfl, _, KN, ON, RN2, DN, BN, hzz⟩
        case rest =>
          obtain ⟨rfl, sv', HK3, HO3, HR3, HD3, HB3, hsz3⟩ := hcut
          have hXl : i < X.length := (List.getElem?_eq_some_iff.1 hXi).1
          have hr3 := HR3.out
          obtain ⟨b3, cp3, hv3, _, _, hb3⟩ := own_form hr3
          obtain ⟨g, rfl, hmg⟩ := hb3 (by omega)
          subst hv3
          obtain ⟨cur, hcur, _, hc31, hc32, hc33, hc34, _⟩ := own_cur hr3
          have hgd := HD3.out g rfl
          have hgi : cur.toArray[i]? = some (.string ⟨t.toArray⟩) := by
            have h8 := (own_cell hr3 i (.string ⟨t.toArray⟩) (by rw [strs_get X i hXl]; have := List.getElem?_eq_some_iff.1 hXi; rw [this.2]))
            rw [blk_cell hcur] at h8
            exact h8
          have hok : c2.s.length ≤ 800000 ∧ c2.at_ ≤ 1800000 := by omega
          have PI := Lib.hid (piece_any wc gk go g i c2 cur.toArray 9 t HK3.out hcur hgi hgd.1 (by omega) hok.1 hok.2)
          have HCUR := Lib.hid hcur
          have HC34 := Lib.hid hc34
          have HC33 := Lib.hid hc33
          obtain ⟨q0, q1, q2, q3, q4, q5⟩ := HK3.out.cells
          have qo5 : wc.cell? ⟨go, 5, none⟩ = some (.slice (some ⟨g, 0, none⟩) X.length cp3) := by rw [blk_cell HO3.out]; rfl
          have hxi : (i : Int) < (X.length : Int) := by omega
          have hi0 : (0 : Int) ≤ (i : Int) := by omega
          have gow : go < wc.heap.size := blk_lt HO3.out
          clear hr3 hcur hgi hc34 hc33 r0 r1 r2 r3 r4 r5 l0 l1 l2 l3 l4 l5 n1 HRR
          go_wp2_with fail
          refine PI.out.mono ?_
          rintro e w2 ⟨rfl, hk4, hg4, hkp⟩
          obtain ⟨V, hV⟩ : ∃ V, V = c2.pieceV t := ⟨_, rfl⟩
          have hVl : V.length ≤ 65535 := by rw [hV]; exact pieceV_le c2 t htl
          rw [← hV] at hg4
          have hset := HSET.out
          rw [← hV] at hset
          have hg5 : w2.heap[g]? = some (.cells (cur.set i (.string ⟨V.toArray⟩)).toArray 9 (0, 0)) := by rw [hg4, List.setIfInBounds_toArray]
          have HR4 : Hid (w2.ownsRow m 9 1 (.slice (some ⟨g, 0, none⟩) X.length cp3) (c2.row i).o.rows.length (strs (c2.row i).o.rows)) := by
            have h8 := own_of_cur (n := X.length) (xs := strs (X.set i V)) (cp := cp3) hg5 hmg hc31 hc32 (by rw [List.length_set]; exact HC33.out) (by rw [List.take_set, HC34.out, strs_set])
            rw [hset] at h8
            have h9 : X.length = (c2.row i).o.rows.length := by rw [← hset, List.length_set]
            rw [← h9]
            exact h8
          have HO4 : Hid (OAt w2 go c2.o (.slice (some ⟨g, 0, none⟩) X.length cp3)) := hkp.heap HO3.out (fun e => e.elim (fun e => hgg e.symm) (fun e => hgd.2 e.symm))
          have HK4 : Hid (KAt w2 gk go (c2.row i)) := by rw [HT.out] at hk4; exact hk4
          have HB4 : Hid (Below m wr w2) := kept_below hkp HB3.out h1 hmg hsz3
          have hw5 : w2.cell? ⟨g, i, none⟩ = some (.string ⟨V.toArray⟩) := by rw [blk_cell hg5]; simp; rw [List.getElem?_set_self]; have := HC33.out; omega
          have hw6 : w2.cell? ⟨go, 5, none⟩ = some (.slice (some ⟨g, 0, none⟩) X.length cp3) := by rw [blk_cell HO4.out]; rfl
          have HS4 : Hid (m ≤ w2.heap.size) := Nat.le_trans hsz3 hkp.size
          obtain ⟨s0, s1, s2, s3, s4, s5⟩ := HK4.out.cells
          have sf4 := HK4.out.fr 4
          have HV := Lib.hid hV
          clear hk4 hg4 hg5 hkp hset PI hV q0 q1 q2 q3 q4 q5 qo5
          have hwr : IntKind.i64.wrap ((all : Int) + (V.length : Int)) = ((all + V.length : Nat) : Int) := by rw [show ((all + V.length : Nat) : Int) = (all : Int) + (V.length : Int) by omega]; exact IntWalk.i64_in _ ⟨by omega, by omega⟩
          have hVt : c2.pieceV (c2.o.rows.getD i []) = V := by rw [← HT.out, HV.out]
          have HVT := Lib.hid hVt
          have hap := own_apart HK4.out (sv := .slice (some ⟨g, 0, none⟩) X.length cp3) HO4.out HR4.out
          have HAP := Lib.hid hap
          have FIN : Hid (CAt (w2.setCell ⟨gk, 4, none⟩ (.bool true)) m gk go ⟨(c2.row i).o, (c2.row i).s, (c2.row i).at_, (c2.row i).rd, true⟩ ∧ Below m w (w2.setCell ⟨gk, 4, none⟩ (.bool true))) :=
            ⟨⟨KAt.put_b HK4.out true, hgg, h1, h2, _, set_keep HO4.out (fun e => hgg e.symm), own_set_far HR4.out (fun q hq => (HAP.out q hq).1), HAP.out⟩, (HBEL.out.trans HB4.out).setCell (p := ⟨gk, 4, none⟩) h1 (.bool true)⟩
          clear hVt hap
          cases hb5 : (c2.row i).bad with
          | true =>
            rw [hb5] at s5
            have hcR : cR = ⟨(c2.row i).o, (c2.row i).s, (c2.row i).at_, (c2.row i).rd, true⟩ := HPR2.out.trans (rowsGo_stop k i all c2 (by rw [hb5]; rfl))
            have HCR := Lib.hid hcR
            clear hcR
            go_wp2_with fail
            (try simp only [Exit.inBlock, Exit.then])
            refine bodyPost_ret (results_none rfl _ _ _) rfl ?_
            rw [HCR.out]
            exact ⟨rfl, FIN.out.1, FIN.out.2⟩
          | false =>
            rw [hb5] at s5
            by_cases hov : 488 < all + V.length
            · have hovi : (488 : Int) < ((all + V.length : Nat) : Int) := by omega
              have hcR : cR = ⟨(c2.row i).o, (c2.row i).s, (c2.row i).at_, (c2.row i).rd, true⟩ := HPR2.out.trans (rowsGo_stop k i all c2 (by rw [HVT.out, decide_eq_true hov]; simp))
              have HCR := Lib.hid hcR
              clear hcR
              generalize all + V.length = all' at *
              go_wp2_with fail
              (try simp only [Exit.inBlock, Exit.then])
              refine bodyPost_ret (results_none rfl _ _ _) rfl ?_
              rw [HCR.out]
              exact ⟨rfl, FIN.out.1, FIN.out.2⟩
            · have hovi : ¬ (488 : Int) < ((all + V.length : Nat) : Int) := by omega
              have hnext : Cd.rowsGo n 0 0 c1 = Cd.rowsGo (n - (i + 1)) (i + 1) (all + V.length) (c2.row i) := by
                rw [← HPR.out, HPR2.out, rowsGo_on k i all c2 (by rw [HVT.out, hb5, decide_eq_false hov]; rfl), HVT.out, hkk]
              have hgr := piece_grow c2 t (by have h8 := hb5; unfold Cd.row at h8; rw [← HT.out] at h8; exact h8)
              rw [← HV.out] at hgr
              have hrow1 : (c2.row i).s = (c2.piece t).s := by unfold Cd.row; rw [← HT.out]; rfl
              have hrow2 : (c2.row i).at_ = (c2.piece t).at_ := by unfold Cd.row; rw [← HT.out]; rfl
              have hrow3 : (c2.row i).rd = c2.rd := by have h8 : (c2.row i).rd = (c2.piece t).rd := by { unfold Cd.row; rw [← HT.out]; rfl }; rw [h8]; exact hgr.2.2.2
              have hrow4 : if (c2.row i).rd then (c2.row i).o.rows.length = i + 1 else n = (c2.row i).o.rows.length := by
                rw [hrow3, row_o]
                have h8 := HRW.out
                cases hr : c2.rd with
                | true => rw [hr] at h8; simp only [if_true] at h8 ⊢; rw [List.length_append, h8]; rfl
                | false => rw [hr] at h8; simp only [Bool.false_eq_true, if_false] at h8 ⊢; exact h8
              have hrow5 : ∀ r ∈ (c2.row i).o.rows, r.length ≤ 65535 := by
                intro r hr
                rw [row_o, HVT.out] at hr
                have h8 := HTX2.out
                cases hrr : c2.rd with
                | true =>
                  rw [hrr] at hr
                  simp only [if_true] at hr
                  rcases List.mem_append.1 hr with h9 | h9
                  · exact h8 r h9
                  · rw [List.mem_singleton.1 h9]; exact hVl
                | false =>
                  rw [hrr] at hr
                  simp only [Bool.false_eq_true, if_false] at hr
                  exact h8 r hr
              have RN9 : Hid (RowsNow w w2 m gk go n c1 (c2.row i) (i + 1) (all + V.length)) :=
                ⟨⟨HK4.out, hgg, h1, h2, _, HO4.out, HR4.out, HAP.out⟩, HBEL.out.trans HB4.out, by omega, hnext, hb5, by omega, by rw [hrow1]; omega, by rw [hrow2]; omega, hrow4, hrow5, HS4.out⟩
              clear hnext hgr hrow1 hrow2 hrow3 hrow4 hrow5 FIN HPR HPR2
              generalize all + V.length = all' at *
              go_wp2_with fail
              go_roundw
              case rel => exact ⟨i + 1, all', c2.row i, rfl, by go_num, RN9⟩
              case measure => simp [intOf]; exact Nat.sub_lt_sub_left hc (Nat.lt_succ_self i)
      · have hci : ¬ (i : Int) < (n : Int) := by omega
        have hin : i = n := by have := hNow.out.le; omega
        subst hin
        have hsame := hNow.out.same
        rw [Nat.sub_self] at hsame
        have hcR : cR = c2 := HPR.out.trans hsame
        subst hcR
        go_wp2_with fail
        (try simp only [Exit.inBlock, Exit.then])
        refine bodyPost_end (results_none rfl _ _ _) rfl ?_
        exact ⟨rfl, hNow.out.at_, hNow.out.below⟩
end Go.Proofs.YtienlhnbmobinaaGreat
end

section
/- chapter 11: an op's parts, one behind the other -/
namespace Go.Proofs.YtienlhnbmobinaaGreat
open Go.RowKit
set_option linter.unusedVariables false
set_option linter.unusedSimpArgs false
theorem num_s (c : Cd) (size most : Nat) (v : Int) : (c.num size most v).s.length ≤ c.s.length + size ∧ (c.num size most v).at_ ≤ c.at_ + size := by
  refine ⟨?_, ?_⟩
  · simp only [Cd.num, Cd.numS]
    split
    · omega
    · rw [List.length_append]
      split
      · rw [be_length]; omega
      · simp
  · simp only [Cd.num, Cd.numA]
    split <;> omega
theorem piece_s (c : Cd) (t : List UInt8) (ht : t.length ≤ 65535) : (c.piece t).s.length ≤ c.s.length + 65537 ∧ (c.piece t).at_ ≤ c.at_ + 65537 := by
  have h1 := num_s c 2 488 (t.length : Int)
  have h2 := rdNum_lt c.s c.at_ 2
  simp only [Nat.reducePow] at h2
  unfold Cd.piece
  split
  · exact ⟨by show c.s.length ≤ _; omega, by show c.at_ + 2 + _ ≤ _; omega⟩
  · refine ⟨?_, by show c.at_ ≤ _; omega⟩
    show ((c.num 2 488 (t.length : Int)).s ++ t).length ≤ _
    rw [List.length_append]
    omega
theorem numV_lt (c : Cd) (size v b : Nat) (hv : v < 256 ^ size) : (c.numV size (v : Int)).toNat < 256 ^ size := by
  unfold Cd.numV
  split
  · exact rdNum_lt _ _ _
  · exact hv
theorem numV_i (c : Cd) (v : Int) (hv : -9223372036854775808 ≤ v ∧ v ≤ 9223372036854775807) : -9223372036854775808 ≤ c.numV 2 v ∧ c.numV 2 v ≤ 9223372036854775807 := by
  unfold Cd.numV
  have h2 := rdNum_lt c.s c.at_ 2
  simp only [Nat.reducePow] at h2
  split
  · omega
  · exact hv
theorem Part.ok {c : Cd} {B : Nat} (p : Part) (hp : p ≠ .rows) (h : c.ok B) : (p.run c).ok (B + 70000) := by
  obtain ⟨⟨w1, w2, w3, w4, w5, w6, w7⟩, h2, h3, h4, h5, h6⟩ := h
  cases p with
  | rows => exact absurd rfl hp
  | kind => have := num_s c 1 5 (c.o.pk : Int); exact ⟨⟨w1, w2, w3, w4, numV_lt c 1 _ 0 (by simpa using w5), w6, w7⟩, h2, h3, h4, by show (c.num 1 5 (c.o.pk : Int)).s.length ≤ _; omega, by show (c.num 1 5 (c.o.pk : Int)).at_ ≤ _; omega⟩
  | level => have := num_s c 1 255 (c.o.lv : Int); exact ⟨⟨w1, w2, w3, w4, w5, numV_lt c 1 _ 0 (by simpa using w6), w7⟩, h2, h3, h4, by show (c.num 1 255 (c.o.lv : Int)).s.length ≤ _; omega, by show (c.num 1 255 (c.o.lv : Int)).at_ ≤ _; omega⟩
  | next => have := num_s c 4 1024 (c.o.nx : Int); exact ⟨⟨w1, w2, w3, w4, w5, w6, numV_lt c 4 _ 0 w7⟩, h2, h3, h4, by show (c.num 4 1024 (c.o.nx : Int)).s.length ≤ _; omega, by show (c.num 4 1024 (c.o.nx : Int)).at_ ≤ _; omega⟩
  | place => have := num_s c 2 488 c.o.at_; exact ⟨⟨w1, w2, numV_i c _ w3, w4, w5, w6, w7⟩, h2, h3, h4, by show (c.num 2 488 c.o.at_).s.length ≤ _; omega, by show (c.num 2 488 c.o.at_).at_ ≤ _; omega⟩
  | off => have := num_s c 2 488 c.o.off; exact ⟨⟨w1, w2, w3, numV_i c _ w4, w5, w6, w7⟩, h2, h3, h4, by show (c.num 2 488 c.o.off).s.length ≤ _; omega, by show (c.num 2 488 c.o.off).at_ ≤ _; omega⟩
  | text => have := piece_s c c.o.text h2; exact ⟨⟨w1, w2, w3, w4, w5, w6, w7⟩, pieceV_le c _ h2, h3, h4, by show (c.piece c.o.text).s.length ≤ _; omega, by show (c.piece c.o.text).at_ ≤ _; omega⟩
theorem Cd.ok.mono {c : Cd} {B B' : Nat} (h : c.ok B) (hb : B ≤ B') : c.ok B' := ⟨h.1, h.2.1, h.2.2.1, h.2.2.2.1, Nat.le_trans h.2.2.2.2.1 hb, Nat.le_trans h.2.2.2.2.2 hb⟩
theorem fold_ok : ∀ (ps : List Part) {c : Cd} {B : Nat}, (∀ p ∈ ps, p ≠ .rows) → c.ok B → (ps.foldl (fun c p => p.run c) c).ok (B + 70000 * ps.length)
  | [], _, _, _, h => h
  | p :: ps, c, B, hp, h => (fold_ok ps (fun q hq => hp q (List.mem_cons_of_mem _ hq)) (p.ok (hp p List.mem_cons_self) h)).mono (by rw [List.length_cons]; omega)
theorem head_ok {c : Cd} {B : Nat} (h : c.ok B) : c.head.ok (B + 5) ∧ c.head.o.rows = c.o.rows ∧ c.head.rd = c.rd := by
  obtain ⟨⟨w1, w2, w3, w4, w5, w6, w7⟩, h2, h3, h4, h5, h6⟩ := h
  have h7 := num_s c 1 255 (c.o.kind : Int)
  have h8 := num_s ((c.num 1 255 (c.o.kind : Int)).set { c.o with kind := (c.numV 1 (c.o.kind : Int)).toNat }) 4 1024 (c.o.page : Int)
  refine ⟨⟨⟨numV_lt c 1 _ 0 (by simpa using w1), numV_lt _ 4 _ 0 w2, w3, w4, w5, w6, w7⟩, h2, h3, h4, ?_, ?_⟩, rfl, rfl⟩
  · show (((c.num 1 255 (c.o.kind : Int)).set { c.o with kind := (c.numV 1 (c.o.kind : Int)).toNat }).num 4 1024 (c.o.page : Int)).s.length ≤ _
    have h9 : ((c.num 1 255 (c.o.kind : Int)).set { c.o with kind := (c.numV 1 (c.o.kind : Int)).toNat }).s.length = (c.num 1 255 (c.o.kind : Int)).s.length := rfl
    omega
  · show (((c.num 1 255 (c.o.kind : Int)).set { c.o with kind := (c.numV 1 (c.o.kind : Int)).toNat }).num 4 1024 (c.o.page : Int)).at_ ≤ _
    have h9 : ((c.num 1 255 (c.o.kind : Int)).set { c.o with kind := (c.numV 1 (c.o.kind : Int)).toNat }).at_ = (c.num 1 255 (c.o.kind : Int)).at_ := rfl
    omega
def fnOf : Part → Nat
  | .kind => 97
  | .level => 98
  | .next => 99
  | .place => 100
  | .off => 103
  | .text => 101
  | .rows => 102
theorem part_any (p : Part) (w : World) (m gk go : Nat) (c : Cd) (h : CAt w m gk go c) (hm : m ≤ w.heap.size) (hc : c.ok 700000) (hr : p = .rows → c.rd = true → c.o.rows = []) :
    Calls Tryz.prog (fnOf p) #[.pointer (some ⟨gk, 0, none⟩)] w fun e w' => PartPost w m gk go (p.run c) e w' ∧ (p ≠ .rows → OthersKept w w' (fun k => k = gk ∨ k = go)) := by
  have hc8 : c.ok 800000 := hc.mono (by omega)
  cases p with
  | kind => exact (part_kind w m gk go c h hm hc8).mono fun _ _ h => ⟨h.1, fun _ => h.2⟩
  | level => exact (part_level w m gk go c h hm hc8).mono fun _ _ h => ⟨h.1, fun _ => h.2⟩
  | next => exact (part_next w m gk go c h hm hc8).mono fun _ _ h => ⟨h.1, fun _ => h.2⟩
  | place => exact (part_place w m gk go c h hm hc8).mono fun _ _ h => ⟨h.1, fun _ => h.2⟩
  | off => exact (part_off w m gk go c h hm hc8).mono fun _ _ h => ⟨h.1, fun _ => h.2⟩
  | text => exact (part_text w m gk go c h hm hc8).mono fun _ _ h => ⟨h.1, fun _ => h.2⟩
  | rows => exact (part_rows w m gk go c h hm hc (hr rfl)).mono fun _ _ h => ⟨h, fun e => absurd rfl e⟩
/-- A slice of an op's parts, as functions. -/
def PartsAt (w : World) (gk : Nat) (S : Value) (ps : List Part) : Prop :=
  ∃ A, S = .slice A ps.length ps.length ∧ (0 < ps.length → ∃ b, A = some ⟨b, 0, none⟩ ∧ b < w.heap.size ∧ ∀ j (h : j < ps.length), w.cell? ⟨b, j, none⟩ = some (.func (.func (fnOf ps[j])) #[.pointer (some ⟨gk, 0, none⟩)] #[]))
theorem PartsAt.kept {w w' : World} {gk go : Nat} {S : Value} {ps : List Part} {c : Cd} {o : Od} {sv : Value} (h : PartsAt w gk S ps) (hk : KAt w gk go c) (ho : OAt w go o sv) (h2 : OthersKept w w' (fun k => k = gk ∨ k = go)) : PartsAt w' gk S ps := by
  obtain ⟨A, hS, hcell⟩ := h
  refine ⟨A, hS, fun h0 => ?_⟩
  obtain ⟨b, hA, hb, hc⟩ := hcell h0
  have hne : ¬ (b = gk ∨ b = go) := by
    intro e
    have h3 := hc 0 h0
    rcases e with rfl | rfl
    · rw [hk.cells.2.1] at h3; simp at h3
    · have h4 : w.cell? ⟨b, 0, none⟩ = some (.int .u8 o.kind) := by rw [blk_cell ho]; rfl
      rw [h4] at h3; simp at h3
  exact ⟨b, hA, Nat.lt_of_lt_of_le hb h2.size, fun j hj => h2.cell (hc j hj) hne⟩
theorem rows_last {kind i : Nat} (hi : i < (partsOf kind).length) (h : (partsOf kind)[i] = .rows) : i + 1 = (partsOf kind).length := by
  have hkk : kind = 1 ∨ kind = 2 ∨ kind = 3 ∨ kind = 4 ∨ kind = 5 ∨ kind = 6 ∨ kind = 7 ∨ kind = 8 ∨ partsOf kind = [] := by
    unfold partsOf
    split <;> simp
  rcases hkk with rfl | rfl | rfl | rfl | rfl | rfl | rfl | rfl | h0
  case inr.inr.inr.inr.inr.inr.inr.inr => rw [h0] at hi; exact absurd hi (Nat.not_lt_zero i)
  case inr.inr.inr.inr.inr.inl => simp [partsOf] at hi ⊢; exact hi
  all_goals
    have := List.getElem_mem hi
    rw [h] at this
    simp [partsOf] at this
/-- The state of the loop over an op's parts. -/
structure OpNow (w wr : World) (m gk go : Nat) (ps : List Part) (h0 : Cd) (i : Nat) : Prop where
  at_ : CAt wr m gk go ((ps.take i).foldl (fun c p => p.run c) h0)
  below : Below m w wr
  le : i ≤ ps.length
  size : m ≤ wr.heap.size
theorem OpNow.next {w wr w2 : World} {m gk go : Nat} {ps : List Part} {h0 : Cd} {i : Nat} (h : OpNow w wr m gk go ps h0 i) (hi : i < ps.length) (h2 : CAt w2 m gk go (ps[i].run ((ps.take i).foldl (fun c p => p.run c) h0))) (hb : Below m wr w2) : OpNow w w2 m gk go ps h0 (i + 1) :=
  ⟨by rw [List.take_succ_eq_append_getElem hi, List.foldl_append]; exact h2, h.below.trans hb, hi, Nat.le_trans h.size hb.size⟩
theorem parts_fine {kind : Nat} {h0 : Cd} (hh : h0.ok 100005) (i : Nat) (hi : i < (partsOf kind).length) (hr : h0.rd = true → h0.o.rows = []) :
    (((partsOf kind).take i).foldl (fun c p => p.run c) h0).ok 700000 ∧ ((partsOf kind)[i] = .rows → (((partsOf kind).take i).foldl (fun c p => p.run c) h0).rd = true → (((partsOf kind).take i).foldl (fun c p => p.run c) h0).o.rows = []) := by
  have key : ∀ ps : List Part, (∀ p ∈ ps, p ≠ .rows) → ps.length ≤ 3 → (ps.foldl (fun c p => p.run c) h0).ok 700000 := fun ps h1 h2 => (fold_ok ps h1 hh).mono (by omega)
  have hkk : kind = 1 ∨ kind = 2 ∨ kind = 3 ∨ kind = 4 ∨ kind = 5 ∨ kind = 6 ∨ kind = 7 ∨ kind = 8 ∨ partsOf kind = [] := by
    unfold partsOf
    split <;> simp
  rcases hkk with rfl | rfl | rfl | rfl | rfl | rfl | rfl | rfl | h0
  case inr.inr.inr.inr.inr.inr.inr.inr => rw [h0] at hi; exact absurd hi (Nat.not_lt_zero i)
  case inr.inr.inr.inr.inr.inl =>
    have hi0 : i = 0 := by simp [partsOf] at hi; exact hi
    subst hi0
    exact ⟨hh.mono (by omega), fun _ h => hr h⟩
  all_goals
    refine ⟨key _ (fun p hp e => ?_) (Nat.le_trans (List.length_take_le _ _) (by simp [partsOf] at hi; omega)), fun h => ?_⟩
    · subst e
      have := List.mem_of_mem_take hp
      simp [partsOf] at this
    · have := List.getElem_mem hi
      rw [h] at this
      simp [partsOf] at this
end Go.Proofs.YtienlhnbmobinaaGreat
end
