/- Kept of our texts for this claim: OpApply -/
import Derived.Test.YtienlhnbmobinaaGreatRows
import Derived.Test.YtienlhnbmobinaaGreatAdAx
import Derived.Test.YtienlhnbmobinaaGreatAdAw
import Derived.Test.YtienlhnbmobinaaGreatAdAu
import Derived.Test.YtienlhnbmobinaaGreatAdAn
import Derived.Test.YtienlhnbmobinaaGreatAdAk
import Derived.Test.YtienlhnbmobinaaGreatAdAl
import Derived.Test.YtienlhnbmobinaaGreatAdAc
import Derived.Test.YtienlhnbmobinaaGreatAdAa
import Derived.Test.YtienlhnbmobinaaGreatAdAb
import Derived.WalkKit
import Derived.WalkLawsBesides
import Derived.WalkSpells
import Derived.LoopTactic
import Derived.WalkMore
import Derived.LoopN
import Derived.Laws.BitsAllLaws
import Derived.Laws.IdiomStrings
import Derived.BigQuiet
import Derived.Deep.QuietTactic
import Derived.Deep.DeepCutAuto
import Derived.Deep.RegionHeld3
import Derived.Deep.DrawnRows
import Derived.Lib.Hide
import Derived.Outline
import Derived.Deep.DeepMust
import Derived.Handy
section
/- op.Apply -/
namespace Go.Proofs.YtienlhnbmobinaaGreat
open Go.RowKit
set_option linter.unusedVariables false
set_option linter.unusedSimpArgs false
theorem weightB_eq (rows : List (List UInt8)) : weightB rows = lensB rows + 4 * rows.length := by
  induction rows with
  | nil => rfl
  | cons r rs ih => rw [weightB_cons, lensB_cons, ih, List.length_cons]; omega
theorem lens_cut (rows : List (List UInt8)) (k : Nat) : lensB rows = lensB (rows.take k) + lensB (rows.drop k) := by
  conv => lhs; rw [← List.take_append_drop k rows, lensB_append]
theorem lens_drop (rows : List (List UInt8)) (k : Nat) : lensB (rows.drop k) ≤ lensB rows := by
  have := lens_cut rows k
  omega
theorem put_weight (rows : List (List UInt8)) (k : Nat) (x : List UInt8) (is : Bool) : weightB (putRows rows k x is) ≤ weightB rows + 4 + x.length := by
  rw [weightB_eq, weightB_eq]
  unfold putRows
  have h1 := lens_cut rows k
  have h2 := lens_drop (rows.drop k) 1
  rw [List.drop_drop] at h2
  cases is
  · simp only [Bool.false_eq_true, if_false, lensB_append, lensB_cons, List.length_append, List.length_cons, List.length_take, List.length_drop]
    omega
  · simp only [if_true, lensB_append, lensB_cons, List.length_append, List.length_cons, List.length_take, List.length_drop]
    omega
theorem may_weight {p : Pg} (h : p.may = true) : weightB p.rows ≤ 484 ∧ p.rows.length ≤ 121 ∧ ∀ r ∈ p.rows, r.length ≤ 480 := by
  unfold Pg.may at h
  rw [Bool.and_eq_true, decide_eq_true_eq] at h
  have h2 := h.2
  have h3 := weightB_eq p.rows
  refine ⟨h2, by omega, fun r hr => ?_⟩
  have h4 := lensB_mem hr
  have : 1 ≤ p.rows.length := List.length_pos_of_mem hr
  omega
theorem setB_len {s t r : List UInt8} {f : Nat} (h : setB s f t = some r) : r.length = s.length := by
  unfold setB at h
  split at h
  · injection h with h
    rw [← h]
    simp
    omega
  · cases h
theorem doB_ok (p : Pg) (o : Od) (hp : p.wf) (ho : o.wf) (hm : o.may = true) (h : o.kind = 1 ∨ p.may = true) : (doB p o).1.wf ∧ weightB (doB p o).1.rows ≤ 100000 := by
  obtain ⟨hk, hpg, hnx, hpk, hat, hoff, hrl, hll⟩ := may_bounds hm
  obtain ⟨p1, p2, p3, p4, p5⟩ := hp
  obtain ⟨o1, o2, o3, o4, o5, o6, o7⟩ := ho
  have hz : weightB [] = 0 := rfl
  have z8 : (0 : Nat) < 256 ^ 8 := by decide
  obtain ⟨ok, page, oat, ooff, text, orows, pk, lv, nx⟩ := o
  simp only at *
  have hll2 : text.length ≤ 488 := by omega
  have hlr : lensB orows ≤ 488 := by omega
  rcases kinds hk with rfl | rfl | rfl | rfl | rfl | rfl | rfl | rfl
  · exact ⟨⟨o5, o6, o2, z8, o7⟩, by simp only [doB]; rw [hz]; omega⟩
  all_goals
    have hpm : p.may = true := h.resolve_left (by omega)
    obtain ⟨w1, w2, w3⟩ := may_weight hpm
    have w4 := weightB_eq p.rows
    simp only [doB]
  · split
    · exact ⟨⟨p1, p2, p3, p4, p5⟩, by have := put_weight p.rows oat.toNat text false; simp only [Pg.with]; omega⟩
    · exact ⟨⟨p1, p2, p3, p4, p5⟩, by show weightB p.rows ≤ 100000; omega⟩
  · split
    · exact ⟨⟨p1, p2, p3, p4, p5⟩, by have := put_weight p.rows oat.toNat text true; simp only [Pg.with]; omega⟩
    · exact ⟨⟨p1, p2, p3, p4, p5⟩, by show weightB p.rows ≤ 100000; omega⟩
  · split
    · refine ⟨⟨p1, p2, p3, p4, p5⟩, ?_⟩
      simp only [Pg.with]
      rw [weightB_eq, lensB_append]
      have h1 := lens_cut p.rows oat.toNat
      have h2 := lens_drop (p.rows.drop oat.toNat) 1
      rw [List.drop_drop] at h2
      simp only [List.length_append, List.length_take, List.length_drop]
      omega
    · exact ⟨⟨p1, p2, p3, p4, p5⟩, by show weightB p.rows ≤ 100000; omega⟩
  · split
    · refine ⟨⟨p1, p2, p3, p4, p5⟩, ?_⟩
      simp only [Pg.with]
      rw [weightB_eq]
      have h1 := lensB_take_le p.rows oat.toNat
      simp only [List.length_take]
      omega
    · exact ⟨⟨p1, p2, p3, p4, p5⟩, by show weightB p.rows ≤ 100000; omega⟩
  · refine ⟨⟨p1, p2, p3, p4, p5⟩, ?_⟩
    simp only [Pg.with]
    rw [weightB_eq, lensB_append, List.length_append]
    omega
  · exact ⟨⟨p1, p2, p3, p4, o7⟩, by show weightB p.rows ≤ 100000; omega⟩
  · split
    · split
      · rename_i r hr
        refine ⟨⟨p1, p2, p3, p4, p5⟩, ?_⟩
        have h1 := setB_len hr
        have h2 := put_weight p.rows oat.toNat r true
        have h3 : (p.rows.getD oat.toNat []).length ≤ 480 := by
          rename_i hin _
          rw [List.getD_eq_getElem?_getD, List.getElem?_eq_getElem hin]
          exact w3 _ (List.getElem_mem hin)
        simp only [Pg.with]
        omega
      · exact ⟨⟨p1, p2, p3, p4, p5⟩, by show weightB p.rows ≤ 100000; omega⟩
    · exact ⟨⟨p1, p2, p3, p4, p5⟩, by show weightB p.rows ≤ 100000; omega⟩
theorem doB_err (p : Pg) (o : Od) : (doB p o).2 = 0 ∨ (doB p o).2 = 2 ∨ (doB p o).2 = 3 := by
  unfold doB
  split <;> (repeat' split) <;> simp
/-- May an op be done to a page? -/
def doOk (p : Pg) (o : Od) : Bool := o.may && (decide (o.kind = 1) || (p.may && decide (p.id = o.page)))
def Pg.lsnTo (p : Pg) (lsn : Nat) : Pg := ⟨p.kind, p.level, p.id, lsn, p.next, p.rows⟩
/-- A page with an op done. -/
def applyB (p : Pg) (o : Od) (lsn : Nat) : Pg × Int :=
  if doOk p o = true then (if (doB p o).2 = 0 then (if ((doB p o).1.lsnTo lsn).may = true then ((doB p o).1.lsnTo lsn, 0) else (Pg.zero, 4)) else (Pg.zero, (doB p o).2)) else (Pg.zero, 2)
theorem prow_below {w w' : World} {base gp : Nat} {P : Pg} (h : PRow w base gp P) (hb : Below w.heap.size w w') : PRow w' base gp P := by
  obtain ⟨sv, h1, h2⟩ := h
  exact ⟨sv, h1.below hb, own_below h2 hb⟩
/-- What a call leaves that gives a page and an error, the page's rows in a block of its own. -/
def PgPostF (w : World) (R : Pg × Int) (e : Ending) (w' : World) : Prop := ∃ sv, e = .returned (.tuple #[pgV R.1 sv, .int .i64 R.2]) ∧ TextsAt w' sv R.1.rows ∧ Below w.heap.size w w' ∧ ∀ k, sv.ownBlock = some k → w.heap.size ≤ k
theorem PgPostF.no {w w' : World} {R : Pg × Int} {n : Int} (hR : R = (Pg.zero, n)) (hb : Below w.heap.size w w') : PgPostF w R (.returned (.tuple #[.agg #[.int .u8 (0 : Nat), .int .u8 (0 : Nat), .int .u32 (0 : Nat), .int .u64 (0 : Nat), .int .u32 (0 : Nat), .slice none 0 0], .int .i64 n])) w' := by
  subst hR
  exact ⟨_, rfl, TextsAt.nil _, hb, fun k hk => by cases hk⟩
set_option maxHeartbeats 4000000 in
set_option maxRecDepth 100000 in
theorem opApplyF_any (p : Pg) (o : Od) (sv tv : Value) (lsn : Nat) (w : World) (ht : TextsAt w sv p.rows) (hu : TextsAt w tv o.rows) (hp : p.wf) (hw : o.wf) (hs : o.small) (hl : lsn < 256 ^ 8) (hb : weightB p.rows ≤ 1000000) (hn : p.rows.length ≤ 900000) :
    Calls Tryz.prog 16 #[pgV p sv, odV o tv, .int .u64 lsn] w (PgPostF w (applyB p o lsn)) := by
  have HT := Lib.hid fun W (hB : Below w.heap.size w W) => ht.below hB
  have HU := Lib.hid fun W (hB : Below w.heap.size w W) => hu.below hB
  have MY := Lib.hid fun W (hB : Below w.heap.size w W) => opMay_any o tv W (hu.below hB) hw hs
  have PM := Lib.hid fun W (hB : Below w.heap.size w W) => pageMay_any p sv W hp (ht.below hB) hb
  have CL := Lib.hid fun W (hB : Below w.heap.size w W) => cloneTexts_any sv p.rows W (ht.below hB) (by omega)
  have HP := Lib.hid hp
  have HW := Lib.hid hw
  have HS := Lib.hid hs
  obtain ⟨R, hR⟩ : ∃ R, R = applyB p o lsn := ⟨_, rfl⟩
  rw [← hR]
  have HR := Lib.hid hR
  obtain ⟨ok, hok⟩ : ∃ b, b = doOk p o := ⟨_, rfl⟩
  have HOK := Lib.hid hok
  clear hR hok hp hw hs
  obtain ⟨A, cp, rfl, _⟩ := ht
  obtain ⟨A2, cp2, rfl, _⟩ := hu
  obtain ⟨n, hnn⟩ : ∃ n, n = p.rows.length := ⟨_, rfl⟩
  obtain ⟨m, hmm⟩ : ∃ m, m = o.rows.length := ⟨_, rfl⟩
  rw [← hnn] at HT PM CL ⊢
  rw [← hmm] at HU MY ⊢
  have HN := Lib.hid hnn
  have HM := Lib.hid hmm
  rw [← hnn] at hn
  clear hnn hmm
  obtain ⟨W1, hW1⟩ : ∃ W, W = w.alloc (.cells #[.int .u8 p.kind, .int .u8 p.level, .int .u32 p.id, .int .u64 p.lsn, .int .u32 p.next, .slice A n cp] 26) := ⟨_, rfl⟩
  obtain ⟨W2, hW2⟩ : ∃ W, W = W1.alloc (.cells #[.int .u8 o.kind, .int .u32 o.page, .int .i64 o.at_, .int .i64 o.off, .string ⟨o.text.toArray⟩, .slice A2 m cp2, .int .u8 o.pk, .int .u8 o.lv, .int .u32 o.nx] 40) := ⟨_, rfl⟩
  obtain ⟨W3, hW3⟩ : ∃ W, W = W2.alloc (.cells #[.int .u8 0, .int .u8 0, .int .u32 0, .int .u64 0, .int .u32 0, .slice none 0 0] 26) := ⟨_, rfl⟩
  have hz1 : W1.heap.size = w.heap.size + 1 := by rw [hW1]; simp
  have hz2 : W2.heap.size = w.heap.size + 2 := by rw [hW2]; simp [hz1]
  have hz3 : W3.heap.size = w.heap.size + 3 := by rw [hW3]; simp [hz2]
  have b1 : Below w.heap.size w W1 := by rw [hW1]; exact alloc_below _ _
  have b2 : Below W1.heap.size W1 W2 := by rw [hW2]; exact alloc_below _ _
  have b3 : Below W2.heap.size W2 W3 := by rw [hW3]; exact alloc_below _ _
  have B3 := Lib.hid (below_then (below_then b1 b2) (b3.mono (by omega)))
  have P3 : PgBox W3 w.heap.size p.kind p.level p.id p.lsn p.next (.slice A n cp) := by
    have h : PgBox W1 w.heap.size p.kind p.level p.id p.lsn p.next (.slice A n cp) := by rw [hW1]; exact PgBox.new _ _ _ _ _ _ _
    exact (h.below b2).below b3
  have O3 : OAt W3 (w.heap.size + 1) o (.slice A2 m cp2) := by
    have h : OAt W2 (w.heap.size + 1) o (.slice A2 m cp2) := by rw [hW2, ← hz1]; exact heap_alloc_new _ _
    exact h.below b3
  have R3 : PgBox W3 (w.heap.size + 1 + 1) 0 0 0 0 0 (.slice none 0 0) := by rw [show w.heap.size + 1 + 1 = W2.heap.size by omega, hW3]; exact PgBox.new _ _ _ _ _ _ _
  have hWW : w.alloc (.cells #[.int .u8 p.kind, .int .u8 p.level, .int .u32 p.id, .int .u64 p.lsn, .int .u32 p.next, .slice A n cp] 26) = W1 := hW1.symm
  unfold odV at MY ⊢
  unfold pgV at PM ⊢
  go_enter Tryz.func16, Tryz.ntmps16
  clear b1 b2 b3 hWW
  go_upto_region 1 with fail
  rw [← hW1, ← hW2, ← hW3]
  have hZ3 := Lib.hid hz3
  clear hW1 hW2 hW3 hz1 hz2 hz3 W1 W2
  have P3 := Lib.hid P3
  have O3 := Lib.hid O3
  have R3 := Lib.hid R3
  have hgl : w.heap.size + 1 + 1 < W3.heap.size := by rw [hZ3.out]; omega
  obtain ⟨_, p0, p1, p2, p3, p4, p5⟩ := P3.out.cells
  obtain ⟨x0, x1, x2, x3, x4, x5, x6, x7, x8⟩ := O3.out.cells
  go_cut [28] (fun s w' => s = .bool (!ok) ∧ Hid (Below W3.heap.size W3 w'))
  case first =>
    go_wp2_with fail
    refine (MY.out _ B3.out).mono ?_
    rintro e W4 ⟨rfl, hb4⟩
    have B4 := Lib.hid (below_then B3.out hb4)
    have HB4 := Lib.hid hb4
    have P4 := P3.out.below hb4
    have O4 := O3.out.below hb4
    clear p0 p1 p2 p3 p4 p5 x0 x1 x2 x3 x4 x5 x6 x7 x8
    obtain ⟨_, p0, p1, p2, p3, p4, p5⟩ := P4.cells
    obtain ⟨x0, x1, x2, x3, x4, x5, x6, x7, x8⟩ := O4.cells
    clear hb4 P4 O4
    cases hm : o.may with
    | false =>
      have HX : Hid (ok = false) := by show _ = _; rw [HOK.out]; unfold doOk; rw [hm]; rfl
      clear hm
      go_wp2_with fail
      go_meet
      exact ⟨by rw [HX.out]; rfl, HB4⟩
    | true =>
      by_cases hk : o.kind = 1
      · have hki : ((o.kind : Int) != 1) = false := by simp; omega
        have HX : Hid (ok = true) := by show _ = _; rw [HOK.out]; unfold doOk; rw [hm, decide_eq_true hk]; rfl
        clear hm hk
        go_wp2_with fail
        go_meet
        exact ⟨by rw [HX.out]; rfl, HB4⟩
      · have hki : ((o.kind : Int) != 1) = true := by simp; omega
        have HX : Hid (ok = (p.may && decide (p.id = o.page))) := by show _ = _; rw [HOK.out]; unfold doOk; rw [hm, decide_eq_false hk]; simp
        clear hm hk
        go_wp2_with fail
        refine (PM.out _ B4.out).mono ?_
        rintro e W5 ⟨rfl, hb5⟩
        have HB5 := Lib.hid (below_then HB4.out hb5)
        replace p2 := keep_cell hb5 p2
        replace x1 := keep_cell hb5 x1
        clear hb5 p0 p1 p3 p4 p5 x0 x2 x3 x4 x5 x6 x7 x8
        cases hm2 : p.may with
        | false =>
          have HX2 : Hid (ok = false) := by show _ = _; rw [HX.out, hm2]; rfl
          clear hm2 HX
          go_wp2_with fail
          go_meet
          exact ⟨by rw [HX2.out]; rfl, HB5⟩
        | true =>
          by_cases hid : p.id = o.page
          · have hid2 : ((p.id : Int) != (o.page : Int)) = false := by simp; omega
            have HX2 : Hid (ok = true) := by show _ = _; rw [HX.out, hm2, decide_eq_true hid]; rfl
            clear hm2 HX hid
            go_wp2_with fail
            go_meet
            exact ⟨by rw [HX2.out]; rfl, HB5⟩
          · have hid2 : ((p.id : Int) != (o.page : Int)) = true := by simp; omega
            have HX2 : Hid (ok = false) := by show _ = _; rw [HX.out, hm2, decide_eq_false hid]; rfl
            clear hm2 HX hid
            go_wp2_with fail
            go_meet
            exact ⟨by rw [HX2.out]; rfl, HB5⟩
  case rest =>
    obtain ⟨hs9, HC⟩ := hcut
    subst hs9
    have P4 := Lib.hid (P3.out.below HC.out)
    have O4 := Lib.hid (O3.out.below HC.out)
    have R4 := Lib.hid (R3.out.below HC.out)
    have B4 := Lib.hid (below_then B3.out HC.out)
    have hgl4 : w.heap.size + 1 + 1 < wc.heap.size := Nat.lt_of_lt_of_le hgl HC.out.size
    clear p0 p1 p2 p3 p4 p5 x0 x1 x2 x3 x4 x5 x6 x7 x8 P3 O3 R3 B3 HC hgl MY PM
    cases ok with
    | false =>
      have HX : Hid (R = (Pg.zero, 2)) := by show _ = _; rw [HR.out]; unfold applyB; rw [if_neg (by rw [← HOK.out]; decide)]
      clear HOK HR
      obtain ⟨_, y0, y1, y2, y3, y4, y5⟩ := R4.out.cells
      obtain ⟨f0, f1, f2, f3, f4, f5⟩ := R4.out.fr
      go_wp2_with fail
      have XB := Lib.hid (R4.out.put 0 0 0 0 0 (.slice none 0 0))
      have XK := Lib.hid (OthersKept.below B4.out (setPg_kept wc (w.heap.size + 1 + 1) 0 0 0 0 0 (.slice none 0 0)) (fun k hk e => by omega))
      refine bodyPost_ret (v := .tuple #[.agg #[.int .u8 (0 : Nat), .int .u8 (0 : Nat), .int .u32 (0 : Nat), .int .u64 (0 : Nat), .int .u32 (0 : Nat), .slice none 0 0], .int .i64 2]) (results_pg (p := 6) (u := 7) (by kernel_rfl) _ _ rfl XB.out) rfl ?_
      exact PgPostF.no HX.out XK.out
    | true =>
      obtain ⟨_, p0, p1, p2, p3, p4, p5⟩ := P4.out.cells
      go_wp2_with fail
      refine (CL.out wc B4.out).mono ?_
      rintro e W5 ⟨v, rfl, hv, hb5⟩
      have P5 := P4.out.below hb5
      have hgl5 : w.heap.size + 1 + 1 < W5.heap.size := Nat.lt_of_lt_of_le hgl4 hb5.size
      have O5 := O4.out.below hb5
      have R5 := R4.out.below hb5
      have B5 := Lib.hid (below_then B4.out hb5)
      obtain ⟨b, c, hvf, _, _, _⟩ := own_form hv
      rw [← HN.out] at hvf hv
      subst hvf
      clear p0 p1 p2 p3 p4 p5
      obtain ⟨_, _, _, _, _, _, p5⟩ := P5.cells
      have f5 := P5.fr.2.2.2.2.2
      have hbase : w.heap.size + 1 + 1 < wc.heap.size := hgl4
      have P6 : PgBox (W5.setCell ⟨w.heap.size, 5, none⟩ (.slice b n c)) w.heap.size p.kind p.level p.id p.lsn p.next (.slice b n c) := P5.set5 _
      have V6 := own_set_far (g := w.heap.size) (i := 5) (u := .slice b n c) hv (fun j hj => by have := own_ge9 hv j hj; omega)
      have O6 : OAt (W5.setCell ⟨w.heap.size, 5, none⟩ (.slice b n c)) (w.heap.size + 1) o (.slice A2 m cp2) := set_keep O5 (by omega)
      have R6 : PgBox (W5.setCell ⟨w.heap.size, 5, none⟩ (.slice b n c)) (w.heap.size + 1 + 1) 0 0 0 0 0 (.slice none 0 0) := set_keep R5 (by omega)
      have PR6 : Hid (PRow (W5.setCell ⟨w.heap.size, 5, none⟩ (.slice b n c)) wc.heap.size w.heap.size p) := ⟨_, P6, by rw [← HN.out]; exact V6⟩
      have B6 := Lib.hid (OthersKept.below B5.out (one_kept W5 w.heap.size 5 (.slice b n c)) (fun k hk e => by omega))
      have hs6 : wc.heap.size ≤ (W5.setCell ⟨w.heap.size, 5, none⟩ (.slice b n c)).heap.size := by simp; exact hb5.size
      clear hv hb5 P5 O5 R5 B5 V6 P4 O4 R4
      have O6h := Lib.hid O6
      have R6h := Lib.hid R6
      clear R6 P6
      go_upto_region 4 with fail
      generalize W5.setCell ⟨w.heap.size, 5, none⟩ (.slice b n c) = W6 at *
      clear p5 f5
      have hmay : o.may = true := by
        have h := HOK.out
        unfold doOk at h
        cases hm : o.may with
        | true => rfl
        | false => rw [hm] at h; cases h
      have hkm : o.kind = 1 ∨ p.may = true := by
        have h := HOK.out
        unfold doOk at h
        by_cases hk : o.kind = 1
        · exact .inl hk
        · rw [hmay, decide_eq_false hk] at h
          simp at h
          exact .inr h.1
      have hwt := doB_ok p o HP.out HW.out hmay hkm
      have HWT := Lib.hid hwt
      have her := doB_err p o
      have HER := Lib.hid her
      have HMAY := Lib.hid hmay
      have HKM := Lib.hid hkm
      have HRR : Hid (R = if (doB p o).2 = 0 then (if ((doB p o).1.lsnTo lsn).may = true then ((doB p o).1.lsnTo lsn, 0) else (Pg.zero, 4)) else (Pg.zero, (doB p o).2)) := by
        show _ = _
        rw [HR.out]
        unfold applyB
        rw [if_pos HOK.out.symm]
      clear hmay hkm hwt her HOK HR
      go_cut [8] (fun s w' => s = .int .i64 (doB p o).2 ∧ Hid ((doB p o).2 = 0 → PRow w' wc.heap.size w.heap.size (doB p o).1) ∧ Hid (PgBox w' (w.heap.size + 1 + 1) 0 0 0 0 0 (.slice none 0 0)) ∧ Hid (Below w.heap.size w w') ∧ w.heap.size + 1 + 1 < w'.heap.size)
      case first =>
        have HUU := Lib.hid fun W (hW : Below W6.heap.size W6 W) => HU.out W (below_then B6.out hW)
        have hgp : w.heap.size < wc.heap.size := by omega
        have DO := Lib.hid fun W => does_any W
        have D1 : Hid (Below W6.heap.size W6 W6.drew) := Lib.hid ((Below.refl _ _).drew)
        have hn9 : p.rows.length ≤ 900000 := by rw [← HN.out]; exact hn
        clear CL O6 HWT HER HRR HP HW HS HM HN
        obtain ⟨ok, page, oat, ooff, text, orows, pk, lv, nx⟩ := o
        obtain ⟨x0, x1, x2, x3, x4, x5, x6, x7, x8⟩ := O6h.out.cells
        have hk := (may_bounds HMAY.out).1
        simp only at x0 x1 x2 x3 x4 x5 x6 x7 x8 hk HUU
        have HF : Hid (∀ W7 W8, Below W6.heap.size W6 W7 → OthersKept W7 W8 (fun x => x = w.heap.size ∨ wc.heap.size ≤ x) → Hid (PgBox W8 (w.heap.size + 1 + 1) 0 0 0 0 0 (.slice none 0 0)) ∧ Hid (Below w.heap.size w W8) ∧ w.heap.size + 1 + 1 < W8.heap.size) := by
          show ∀ W7 W8, _
          intro W7 W8 h7 h8
          have r7 := R6h.out.below h7
          refine ⟨r7.kept h8 (by omega), OthersKept.below (below_then B6.out h7) h8 (fun k hk e => by omega), ?_⟩
          exact (r7.kept h8 (by omega)).lt
        clear B6 R6h O6h
        have hnot : ¬ (w.heap.size + 1 = w.heap.size ∨ wc.heap.size ≤ w.heap.size + 1) := by omega
        rcases kinds hk with rfl | rfl | rfl | rfl | rfl | rfl | rfl | rfl
        · have KC := Lib.hid fun W (hW : Below W6.heap.size W6 W) => (⟨keep_cell hW x0, keep_cell hW x1, keep_cell hW x2, keep_cell hW x3, keep_cell hW x4, keep_cell hW x5, keep_cell hW x6, keep_cell hW x7, keep_cell hW x8⟩ : W.cell? ⟨w.heap.size + 1, 0, none⟩ = some (.int .u8 (1 : Nat)) ∧ W.cell? ⟨w.heap.size + 1, 1, none⟩ = some (.int .u32 page) ∧ W.cell? ⟨w.heap.size + 1, 2, none⟩ = some (.int .i64 oat) ∧ W.cell? ⟨w.heap.size + 1, 3, none⟩ = some (.int .i64 ooff) ∧ W.cell? ⟨w.heap.size + 1, 4, none⟩ = some (.string ⟨text.toArray⟩) ∧ W.cell? ⟨w.heap.size + 1, 5, none⟩ = some (.slice A2 m cp2) ∧ W.cell? ⟨w.heap.size + 1, 6, none⟩ = some (.int .u8 pk) ∧ W.cell? ⟨w.heap.size + 1, 7, none⟩ = some (.int .u8 lv) ∧ W.cell? ⟨w.heap.size + 1, 8, none⟩ = some (.int .u32 nx))
          have KS := Lib.hid fun W7 W8 (h7 : Below W6.heap.size W6 W7) (h8 : OthersKept W7 W8 (fun x => x = w.heap.size ∨ wc.heap.size ≤ x)) => (⟨h8.cell (keep_cell h7 x0) hnot, h8.cell (keep_cell h7 x1) hnot, h8.cell (keep_cell h7 x2) hnot, h8.cell (keep_cell h7 x3) hnot, h8.cell (keep_cell h7 x4) hnot, h8.cell (keep_cell h7 x5) hnot, h8.cell (keep_cell h7 x6) hnot, h8.cell (keep_cell h7 x7) hnot, h8.cell (keep_cell h7 x8) hnot⟩ : W8.cell? ⟨w.heap.size + 1, 0, none⟩ = some (.int .u8 (1 : Nat)) ∧ W8.cell? ⟨w.heap.size + 1, 1, none⟩ = some (.int .u32 page) ∧ W8.cell? ⟨w.heap.size + 1, 2, none⟩ = some (.int .i64 oat) ∧ W8.cell? ⟨w.heap.size + 1, 3, none⟩ = some (.int .i64 ooff) ∧ W8.cell? ⟨w.heap.size + 1, 4, none⟩ = some (.string ⟨text.toArray⟩) ∧ W8.cell? ⟨w.heap.size + 1, 5, none⟩ = some (.slice A2 m cp2) ∧ W8.cell? ⟨w.heap.size + 1, 6, none⟩ = some (.int .u8 pk) ∧ W8.cell? ⟨w.heap.size + 1, 7, none⟩ = some (.int .u8 lv) ∧ W8.cell? ⟨w.heap.size + 1, 8, none⟩ = some (.int .u32 nx))
          clear x0 x1 x2 x3 x4 x5 x6 x7 x8
          go_region_held3 (fun W => W.cell? ⟨w.heap.size + 1, 0, none⟩ = some (.int .u8 (1 : Nat)) ∧ W.cell? ⟨w.heap.size + 1, 1, none⟩ = some (.int .u32 page) ∧ W.cell? ⟨w.heap.size + 1, 2, none⟩ = some (.int .i64 oat) ∧ W.cell? ⟨w.heap.size + 1, 3, none⟩ = some (.int .i64 ooff) ∧ W.cell? ⟨w.heap.size + 1, 4, none⟩ = some (.string ⟨text.toArray⟩) ∧ W.cell? ⟨w.heap.size + 1, 5, none⟩ = some (.slice A2 m cp2) ∧ W.cell? ⟨w.heap.size + 1, 6, none⟩ = some (.int .u8 pk) ∧ W.cell? ⟨w.heap.size + 1, 7, none⟩ = some (.int .u8 lv) ∧ W.cell? ⟨w.heap.size + 1, 8, none⟩ = some (.int .u32 nx))
            (first
              | (with_reducible exact KC.out _ D1.out)
              | (with_reducible exact KC.out _ hb7)
              | (with_reducible exact hS8))
            (first
              | (go_at_call 61; refine (does2_any W7 wc.heap.size w.heap.size p ⟨1, page, oat, ooff, text, orows, pk, lv, nx⟩ (.slice A2 m cp2) PR7 HU7 hs7 hgp HMAY.out rfl hn9).mono ?_; rintro e W8 ⟨rfl, h1, h2⟩; have H1 := Lib.hid h1; have H2 := HF.out W7 W8 hb7 h2; have hS8 := KS.out W7 W8 hb7 h2; clear h1 h2)
              | (go_at_call 36; refine (DO.out _).mono ?_; rintro e W7 ⟨mm, b3, b4, b8, rfl, hD, hb0⟩; have hb7 := below_then D1.out hb0; have nk : (Instr.lookup 77 (.map (some mm)) (.int .u8 1) false).run Tryz.prog W7 = .ok (.func (.func 61) #[] #[]) W7 := hD.1.look1 (k := 1) Tryz.underlying77 (z := .nilFunc) rfl (by decide) rfl; have PR7 := prow_below PR6.out hb7; have HU7 := HUU.out W7 hb7; have hs7 : wc.heap.size ≤ W7.heap.size := Nat.le_trans hs6 hb7.size; clear hb0))
          go_wp2_with fail
          go_meet
          exact ⟨rfl, H1, H2.1, H2.2.1, H2.2.2⟩
        · have KC := Lib.hid fun W (hW : Below W6.heap.size W6 W) => (⟨keep_cell hW x0, keep_cell hW x1, keep_cell hW x2, keep_cell hW x3, keep_cell hW x4, keep_cell hW x5, keep_cell hW x6, keep_cell hW x7, keep_cell hW x8⟩ : W.cell? ⟨w.heap.size + 1, 0, none⟩ = some (.int .u8 (2 : Nat)) ∧ W.cell? ⟨w.heap.size + 1, 1, none⟩ = some (.int .u32 page) ∧ W.cell? ⟨w.heap.size + 1, 2, none⟩ = some (.int .i64 oat) ∧ W.cell? ⟨w.heap.size + 1, 3, none⟩ = some (.int .i64 ooff) ∧ W.cell? ⟨w.heap.size + 1, 4, none⟩ = some (.string ⟨text.toArray⟩) ∧ W.cell? ⟨w.heap.size + 1, 5, none⟩ = some (.slice A2 m cp2) ∧ W.cell? ⟨w.heap.size + 1, 6, none⟩ = some (.int .u8 pk) ∧ W.cell? ⟨w.heap.size + 1, 7, none⟩ = some (.int .u8 lv) ∧ W.cell? ⟨w.heap.size + 1, 8, none⟩ = some (.int .u32 nx))
          have KS := Lib.hid fun W7 W8 (h7 : Below W6.heap.size W6 W7) (h8 : OthersKept W7 W8 (fun x => x = w.heap.size ∨ wc.heap.size ≤ x)) => (⟨h8.cell (keep_cell h7 x0) hnot, h8.cell (keep_cell h7 x1) hnot, h8.cell (keep_cell h7 x2) hnot, h8.cell (keep_cell h7 x3) hnot, h8.cell (keep_cell h7 x4) hnot, h8.cell (keep_cell h7 x5) hnot, h8.cell (keep_cell h7 x6) hnot, h8.cell (keep_cell h7 x7) hnot, h8.cell (keep_cell h7 x8) hnot⟩ : W8.cell? ⟨w.heap.size + 1, 0, none⟩ = some (.int .u8 (2 : Nat)) ∧ W8.cell? ⟨w.heap.size + 1, 1, none⟩ = some (.int .u32 page) ∧ W8.cell? ⟨w.heap.size + 1, 2, none⟩ = some (.int .i64 oat) ∧ W8.cell? ⟨w.heap.size + 1, 3, none⟩ = some (.int .i64 ooff) ∧ W8.cell? ⟨w.heap.size + 1, 4, none⟩ = some (.string ⟨text.toArray⟩) ∧ W8.cell? ⟨w.heap.size + 1, 5, none⟩ = some (.slice A2 m cp2) ∧ W8.cell? ⟨w.heap.size + 1, 6, none⟩ = some (.int .u8 pk) ∧ W8.cell? ⟨w.heap.size + 1, 7, none⟩ = some (.int .u8 lv) ∧ W8.cell? ⟨w.heap.size + 1, 8, none⟩ = some (.int .u32 nx))
          clear x0 x1 x2 x3 x4 x5 x6 x7 x8
          go_region_held3 (fun W => W.cell? ⟨w.heap.size + 1, 0, none⟩ = some (.int .u8 (2 : Nat)) ∧ W.cell? ⟨w.heap.size + 1, 1, none⟩ = some (.int .u32 page) ∧ W.cell? ⟨w.heap.size + 1, 2, none⟩ = some (.int .i64 oat) ∧ W.cell? ⟨w.heap.size + 1, 3, none⟩ = some (.int .i64 ooff) ∧ W.cell? ⟨w.heap.size + 1, 4, none⟩ = some (.string ⟨text.toArray⟩) ∧ W.cell? ⟨w.heap.size + 1, 5, none⟩ = some (.slice A2 m cp2) ∧ W.cell? ⟨w.heap.size + 1, 6, none⟩ = some (.int .u8 pk) ∧ W.cell? ⟨w.heap.size + 1, 7, none⟩ = some (.int .u8 lv) ∧ W.cell? ⟨w.heap.size + 1, 8, none⟩ = some (.int .u32 nx))
            (first
              | (with_reducible exact KC.out _ D1.out)
              | (with_reducible exact KC.out _ hb7)
              | (with_reducible exact hS8))
            (first
              | (go_at_call 62; refine (does3_any W7 wc.heap.size w.heap.size p ⟨2, page, oat, ooff, text, orows, pk, lv, nx⟩ (.slice A2 m cp2) PR7 HU7 hs7 hgp HMAY.out rfl hn9).mono ?_; rintro e W8 ⟨rfl, h1, h2⟩; have H1 := Lib.hid h1; have H2 := HF.out W7 W8 hb7 h2; have hS8 := KS.out W7 W8 hb7 h2; clear h1 h2)
              | (go_at_call 36; refine (DO.out _).mono ?_; rintro e W7 ⟨mm, b3, b4, b8, rfl, hD, hb0⟩; have hb7 := below_then D1.out hb0; have nk : (Instr.lookup 77 (.map (some mm)) (.int .u8 2) false).run Tryz.prog W7 = .ok (.func (.func 62) #[] #[]) W7 := hD.1.look1 (k := 2) Tryz.underlying77 (z := .nilFunc) rfl (by decide) rfl; have PR7 := prow_below PR6.out hb7; have HU7 := HUU.out W7 hb7; have hs7 : wc.heap.size ≤ W7.heap.size := Nat.le_trans hs6 hb7.size; clear hb0))
          go_wp2_with fail
          go_meet
          exact ⟨rfl, H1, H2.1, H2.2.1, H2.2.2⟩
        · have KC := Lib.hid fun W (hW : Below W6.heap.size W6 W) => (⟨keep_cell hW x0, keep_cell hW x1, keep_cell hW x2, keep_cell hW x3, keep_cell hW x4, keep_cell hW x5, keep_cell hW x6, keep_cell hW x7, keep_cell hW x8⟩ : W.cell? ⟨w.heap.size + 1, 0, none⟩ = some (.int .u8 (3 : Nat)) ∧ W.cell? ⟨w.heap.size + 1, 1, none⟩ = some (.int .u32 page) ∧ W.cell? ⟨w.heap.size + 1, 2, none⟩ = some (.int .i64 oat) ∧ W.cell? ⟨w.heap.size + 1, 3, none⟩ = some (.int .i64 ooff) ∧ W.cell? ⟨w.heap.size + 1, 4, none⟩ = some (.string ⟨text.toArray⟩) ∧ W.cell? ⟨w.heap.size + 1, 5, none⟩ = some (.slice A2 m cp2) ∧ W.cell? ⟨w.heap.size + 1, 6, none⟩ = some (.int .u8 pk) ∧ W.cell? ⟨w.heap.size + 1, 7, none⟩ = some (.int .u8 lv) ∧ W.cell? ⟨w.heap.size + 1, 8, none⟩ = some (.int .u32 nx))
          have KS := Lib.hid fun W7 W8 (h7 : Below W6.heap.size W6 W7) (h8 : OthersKept W7 W8 (fun x => x = w.heap.size ∨ wc.heap.size ≤ x)) => (⟨h8.cell (keep_cell h7 x0) hnot, h8.cell (keep_cell h7 x1) hnot, h8.cell (keep_cell h7 x2) hnot, h8.cell (keep_cell h7 x3) hnot, h8.cell (keep_cell h7 x4) hnot, h8.cell (keep_cell h7 x5) hnot, h8.cell (keep_cell h7 x6) hnot, h8.cell (keep_cell h7 x7) hnot, h8.cell (keep_cell h7 x8) hnot⟩ : W8.cell? ⟨w.heap.size + 1, 0, none⟩ = some (.int .u8 (3 : Nat)) ∧ W8.cell? ⟨w.heap.size + 1, 1, none⟩ = some (.int .u32 page) ∧ W8.cell? ⟨w.heap.size + 1, 2, none⟩ = some (.int .i64 oat) ∧ W8.cell? ⟨w.heap.size + 1, 3, none⟩ = some (.int .i64 ooff) ∧ W8.cell? ⟨w.heap.size + 1, 4, none⟩ = some (.string ⟨text.toArray⟩) ∧ W8.cell? ⟨w.heap.size + 1, 5, none⟩ = some (.slice A2 m cp2) ∧ W8.cell? ⟨w.heap.size + 1, 6, none⟩ = some (.int .u8 pk) ∧ W8.cell? ⟨w.heap.size + 1, 7, none⟩ = some (.int .u8 lv) ∧ W8.cell? ⟨w.heap.size + 1, 8, none⟩ = some (.int .u32 nx))
          clear x0 x1 x2 x3 x4 x5 x6 x7 x8
          go_region_held3 (fun W => W.cell? ⟨w.heap.size + 1, 0, none⟩ = some (.int .u8 (3 : Nat)) ∧ W.cell? ⟨w.heap.size + 1, 1, none⟩ = some (.int .u32 page) ∧ W.cell? ⟨w.heap.size + 1, 2, none⟩ = some (.int .i64 oat) ∧ W.cell? ⟨w.heap.size + 1, 3, none⟩ = some (.int .i64 ooff) ∧ W.cell? ⟨w.heap.size + 1, 4, none⟩ = some (.string ⟨text.toArray⟩) ∧ W.cell? ⟨w.heap.size + 1, 5, none⟩ = some (.slice A2 m cp2) ∧ W.cell? ⟨w.heap.size + 1, 6, none⟩ = some (.int .u8 pk) ∧ W.cell? ⟨w.heap.size + 1, 7, none⟩ = some (.int .u8 lv) ∧ W.cell? ⟨w.heap.size + 1, 8, none⟩ = some (.int .u32 nx))
            (first
              | (with_reducible exact KC.out _ D1.out)
              | (with_reducible exact KC.out _ hb7)
              | (with_reducible exact hS8))
            (first
              | (go_at_call 60; refine (row_any 64 W7 wc.heap.size w.heap.size b3 p ⟨3, page, oat, ooff, text, orows, pk, lv, nx⟩ (.slice A2 m cp2) PR7 HU7 hs7 hgp HMAY.out hD.2.1 (.inl rfl) hn9 (fun W hW hin => does4_any W wc.heap.size w.heap.size p ⟨3, page, oat, ooff, text, orows, pk, lv, nx⟩ (.slice A2 m cp2) (prow_below PR7 hW) (HU7.below (hW)) (Nat.le_trans hs7 hW.size) hgp HMAY.out rfl hn9 hin) (fun h => by simp only [doB]; rw [if_neg h])).mono ?_; rintro e W8 ⟨rfl, h1, h2⟩; have H1 := Lib.hid h1; have H2 := HF.out W7 W8 hb7 h2; have hS8 := KS.out W7 W8 hb7 h2; clear h1 h2)
              | (go_at_call 36; refine (DO.out _).mono ?_; rintro e W7 ⟨mm, b3, b4, b8, rfl, hD, hb0⟩; have hb7 := below_then D1.out hb0; have nk : (Instr.lookup 77 (.map (some mm)) (.int .u8 3) false).run Tryz.prog W7 = .ok (.func (.func 60) #[] #[.pointer (some ⟨b3, 0, none⟩)]) W7 := hD.1.look1 (k := 3) Tryz.underlying77 (z := .nilFunc) rfl (by decide) rfl; have PR7 := prow_below PR6.out hb7; have HU7 := HUU.out W7 hb7; have hs7 : wc.heap.size ≤ W7.heap.size := Nat.le_trans hs6 hb7.size; clear hb0))
          go_wp2_with fail
          go_meet
          exact ⟨rfl, H1, H2.1, H2.2.1, H2.2.2⟩
        · have KC := Lib.hid fun W (hW : Below W6.heap.size W6 W) => (⟨keep_cell hW x0, keep_cell hW x1, keep_cell hW x2, keep_cell hW x3, keep_cell hW x4, keep_cell hW x5, keep_cell hW x6, keep_cell hW x7, keep_cell hW x8⟩ : W.cell? ⟨w.heap.size + 1, 0, none⟩ = some (.int .u8 (4 : Nat)) ∧ W.cell? ⟨w.heap.size + 1, 1, none⟩ = some (.int .u32 page) ∧ W.cell? ⟨w.heap.size + 1, 2, none⟩ = some (.int .i64 oat) ∧ W.cell? ⟨w.heap.size + 1, 3, none⟩ = some (.int .i64 ooff) ∧ W.cell? ⟨w.heap.size + 1, 4, none⟩ = some (.string ⟨text.toArray⟩) ∧ W.cell? ⟨w.heap.size + 1, 5, none⟩ = some (.slice A2 m cp2) ∧ W.cell? ⟨w.heap.size + 1, 6, none⟩ = some (.int .u8 pk) ∧ W.cell? ⟨w.heap.size + 1, 7, none⟩ = some (.int .u8 lv) ∧ W.cell? ⟨w.heap.size + 1, 8, none⟩ = some (.int .u32 nx))
          have KS := Lib.hid fun W7 W8 (h7 : Below W6.heap.size W6 W7) (h8 : OthersKept W7 W8 (fun x => x = w.heap.size ∨ wc.heap.size ≤ x)) => (⟨h8.cell (keep_cell h7 x0) hnot, h8.cell (keep_cell h7 x1) hnot, h8.cell (keep_cell h7 x2) hnot, h8.cell (keep_cell h7 x3) hnot, h8.cell (keep_cell h7 x4) hnot, h8.cell (keep_cell h7 x5) hnot, h8.cell (keep_cell h7 x6) hnot, h8.cell (keep_cell h7 x7) hnot, h8.cell (keep_cell h7 x8) hnot⟩ : W8.cell? ⟨w.heap.size + 1, 0, none⟩ = some (.int .u8 (4 : Nat)) ∧ W8.cell? ⟨w.heap.size + 1, 1, none⟩ = some (.int .u32 page) ∧ W8.cell? ⟨w.heap.size + 1, 2, none⟩ = some (.int .i64 oat) ∧ W8.cell? ⟨w.heap.size + 1, 3, none⟩ = some (.int .i64 ooff) ∧ W8.cell? ⟨w.heap.size + 1, 4, none⟩ = some (.string ⟨text.toArray⟩) ∧ W8.cell? ⟨w.heap.size + 1, 5, none⟩ = some (.slice A2 m cp2) ∧ W8.cell? ⟨w.heap.size + 1, 6, none⟩ = some (.int .u8 pk) ∧ W8.cell? ⟨w.heap.size + 1, 7, none⟩ = some (.int .u8 lv) ∧ W8.cell? ⟨w.heap.size + 1, 8, none⟩ = some (.int .u32 nx))
          clear x0 x1 x2 x3 x4 x5 x6 x7 x8
          go_region_held3 (fun W => W.cell? ⟨w.heap.size + 1, 0, none⟩ = some (.int .u8 (4 : Nat)) ∧ W.cell? ⟨w.heap.size + 1, 1, none⟩ = some (.int .u32 page) ∧ W.cell? ⟨w.heap.size + 1, 2, none⟩ = some (.int .i64 oat) ∧ W.cell? ⟨w.heap.size + 1, 3, none⟩ = some (.int .i64 ooff) ∧ W.cell? ⟨w.heap.size + 1, 4, none⟩ = some (.string ⟨text.toArray⟩) ∧ W.cell? ⟨w.heap.size + 1, 5, none⟩ = some (.slice A2 m cp2) ∧ W.cell? ⟨w.heap.size + 1, 6, none⟩ = some (.int .u8 pk) ∧ W.cell? ⟨w.heap.size + 1, 7, none⟩ = some (.int .u8 lv) ∧ W.cell? ⟨w.heap.size + 1, 8, none⟩ = some (.int .u32 nx))
            (first
              | (with_reducible exact KC.out _ D1.out)
              | (with_reducible exact KC.out _ hb7)
              | (with_reducible exact hS8))
            (first
              | (go_at_call 60; refine (row_any 65 W7 wc.heap.size w.heap.size b4 p ⟨4, page, oat, ooff, text, orows, pk, lv, nx⟩ (.slice A2 m cp2) PR7 HU7 hs7 hgp HMAY.out hD.2.2.1 (.inr (.inl rfl)) hn9 (fun W hW hin => does5_any W wc.heap.size w.heap.size p ⟨4, page, oat, ooff, text, orows, pk, lv, nx⟩ (.slice A2 m cp2) (prow_below PR7 hW) (HU7.below (hW)) (Nat.le_trans hs7 hW.size) hgp HMAY.out rfl hn9 hin) (fun h => by simp only [doB]; rw [if_neg h])).mono ?_; rintro e W8 ⟨rfl, h1, h2⟩; have H1 := Lib.hid h1; have H2 := HF.out W7 W8 hb7 h2; have hS8 := KS.out W7 W8 hb7 h2; clear h1 h2)
              | (go_at_call 36; refine (DO.out _).mono ?_; rintro e W7 ⟨mm, b3, b4, b8, rfl, hD, hb0⟩; have hb7 := below_then D1.out hb0; have nk : (Instr.lookup 77 (.map (some mm)) (.int .u8 4) false).run Tryz.prog W7 = .ok (.func (.func 60) #[] #[.pointer (some ⟨b4, 0, none⟩)]) W7 := hD.1.look1 (k := 4) Tryz.underlying77 (z := .nilFunc) rfl (by decide) rfl; have PR7 := prow_below PR6.out hb7; have HU7 := HUU.out W7 hb7; have hs7 : wc.heap.size ≤ W7.heap.size := Nat.le_trans hs6 hb7.size; clear hb0))
          go_wp2_with fail
          go_meet
          exact ⟨rfl, H1, H2.1, H2.2.1, H2.2.2⟩
        · have KC := Lib.hid fun W (hW : Below W6.heap.size W6 W) => (⟨keep_cell hW x0, keep_cell hW x1, keep_cell hW x2, keep_cell hW x3, keep_cell hW x4, keep_cell hW x5, keep_cell hW x6, keep_cell hW x7, keep_cell hW x8⟩ : W.cell? ⟨w.heap.size + 1, 0, none⟩ = some (.int .u8 (5 : Nat)) ∧ W.cell? ⟨w.heap.size + 1, 1, none⟩ = some (.int .u32 page) ∧ W.cell? ⟨w.heap.size + 1, 2, none⟩ = some (.int .i64 oat) ∧ W.cell? ⟨w.heap.size + 1, 3, none⟩ = some (.int .i64 ooff) ∧ W.cell? ⟨w.heap.size + 1, 4, none⟩ = some (.string ⟨text.toArray⟩) ∧ W.cell? ⟨w.heap.size + 1, 5, none⟩ = some (.slice A2 m cp2) ∧ W.cell? ⟨w.heap.size + 1, 6, none⟩ = some (.int .u8 pk) ∧ W.cell? ⟨w.heap.size + 1, 7, none⟩ = some (.int .u8 lv) ∧ W.cell? ⟨w.heap.size + 1, 8, none⟩ = some (.int .u32 nx))
          have KS := Lib.hid fun W7 W8 (h7 : Below W6.heap.size W6 W7) (h8 : OthersKept W7 W8 (fun x => x = w.heap.size ∨ wc.heap.size ≤ x)) => (⟨h8.cell (keep_cell h7 x0) hnot, h8.cell (keep_cell h7 x1) hnot, h8.cell (keep_cell h7 x2) hnot, h8.cell (keep_cell h7 x3) hnot, h8.cell (keep_cell h7 x4) hnot, h8.cell (keep_cell h7 x5) hnot, h8.cell (keep_cell h7 x6) hnot, h8.cell (keep_cell h7 x7) hnot, h8.cell (keep_cell h7 x8) hnot⟩ : W8.cell? ⟨w.heap.size + 1, 0, none⟩ = some (.int .u8 (5 : Nat)) ∧ W8.cell? ⟨w.heap.size + 1, 1, none⟩ = some (.int .u32 page) ∧ W8.cell? ⟨w.heap.size + 1, 2, none⟩ = some (.int .i64 oat) ∧ W8.cell? ⟨w.heap.size + 1, 3, none⟩ = some (.int .i64 ooff) ∧ W8.cell? ⟨w.heap.size + 1, 4, none⟩ = some (.string ⟨text.toArray⟩) ∧ W8.cell? ⟨w.heap.size + 1, 5, none⟩ = some (.slice A2 m cp2) ∧ W8.cell? ⟨w.heap.size + 1, 6, none⟩ = some (.int .u8 pk) ∧ W8.cell? ⟨w.heap.size + 1, 7, none⟩ = some (.int .u8 lv) ∧ W8.cell? ⟨w.heap.size + 1, 8, none⟩ = some (.int .u32 nx))
          clear x0 x1 x2 x3 x4 x5 x6 x7 x8
          go_region_held3 (fun W => W.cell? ⟨w.heap.size + 1, 0, none⟩ = some (.int .u8 (5 : Nat)) ∧ W.cell? ⟨w.heap.size + 1, 1, none⟩ = some (.int .u32 page) ∧ W.cell? ⟨w.heap.size + 1, 2, none⟩ = some (.int .i64 oat) ∧ W.cell? ⟨w.heap.size + 1, 3, none⟩ = some (.int .i64 ooff) ∧ W.cell? ⟨w.heap.size + 1, 4, none⟩ = some (.string ⟨text.toArray⟩) ∧ W.cell? ⟨w.heap.size + 1, 5, none⟩ = some (.slice A2 m cp2) ∧ W.cell? ⟨w.heap.size + 1, 6, none⟩ = some (.int .u8 pk) ∧ W.cell? ⟨w.heap.size + 1, 7, none⟩ = some (.int .u8 lv) ∧ W.cell? ⟨w.heap.size + 1, 8, none⟩ = some (.int .u32 nx))
            (first
              | (with_reducible exact KC.out _ D1.out)
              | (with_reducible exact KC.out _ hb7)
              | (with_reducible exact hS8))
            (first
              | (go_at_call 67; refine (does6_any W7 wc.heap.size w.heap.size p ⟨5, page, oat, ooff, text, orows, pk, lv, nx⟩ (.slice A2 m cp2) PR7 HU7 hs7 hgp HMAY.out rfl hn9).mono ?_; rintro e W8 ⟨rfl, h1, h2⟩; have H1 := Lib.hid h1; have H2 := HF.out W7 W8 hb7 h2; have hS8 := KS.out W7 W8 hb7 h2; clear h1 h2)
              | (go_at_call 36; refine (DO.out _).mono ?_; rintro e W7 ⟨mm, b3, b4, b8, rfl, hD, hb0⟩; have hb7 := below_then D1.out hb0; have nk : (Instr.lookup 77 (.map (some mm)) (.int .u8 5) false).run Tryz.prog W7 = .ok (.func (.func 67) #[] #[]) W7 := hD.1.look1 (k := 5) Tryz.underlying77 (z := .nilFunc) rfl (by decide) rfl; have PR7 := prow_below PR6.out hb7; have HU7 := HUU.out W7 hb7; have hs7 : wc.heap.size ≤ W7.heap.size := Nat.le_trans hs6 hb7.size; clear hb0))
          go_wp2_with fail
          go_meet
          exact ⟨rfl, H1, H2.1, H2.2.1, H2.2.2⟩
        · have KC := Lib.hid fun W (hW : Below W6.heap.size W6 W) => (⟨keep_cell hW x0, keep_cell hW x1, keep_cell hW x2, keep_cell hW x3, keep_cell hW x4, keep_cell hW x5, keep_cell hW x6, keep_cell hW x7, keep_cell hW x8⟩ : W.cell? ⟨w.heap.size + 1, 0, none⟩ = some (.int .u8 (6 : Nat)) ∧ W.cell? ⟨w.heap.size + 1, 1, none⟩ = some (.int .u32 page) ∧ W.cell? ⟨w.heap.size + 1, 2, none⟩ = some (.int .i64 oat) ∧ W.cell? ⟨w.heap.size + 1, 3, none⟩ = some (.int .i64 ooff) ∧ W.cell? ⟨w.heap.size + 1, 4, none⟩ = some (.string ⟨text.toArray⟩) ∧ W.cell? ⟨w.heap.size + 1, 5, none⟩ = some (.slice A2 m cp2) ∧ W.cell? ⟨w.heap.size + 1, 6, none⟩ = some (.int .u8 pk) ∧ W.cell? ⟨w.heap.size + 1, 7, none⟩ = some (.int .u8 lv) ∧ W.cell? ⟨w.heap.size + 1, 8, none⟩ = some (.int .u32 nx))
          have KS := Lib.hid fun W7 W8 (h7 : Below W6.heap.size W6 W7) (h8 : OthersKept W7 W8 (fun x => x = w.heap.size ∨ wc.heap.size ≤ x)) => (⟨h8.cell (keep_cell h7 x0) hnot, h8.cell (keep_cell h7 x1) hnot, h8.cell (keep_cell h7 x2) hnot, h8.cell (keep_cell h7 x3) hnot, h8.cell (keep_cell h7 x4) hnot, h8.cell (keep_cell h7 x5) hnot, h8.cell (keep_cell h7 x6) hnot, h8.cell (keep_cell h7 x7) hnot, h8.cell (keep_cell h7 x8) hnot⟩ : W8.cell? ⟨w.heap.size + 1, 0, none⟩ = some (.int .u8 (6 : Nat)) ∧ W8.cell? ⟨w.heap.size + 1, 1, none⟩ = some (.int .u32 page) ∧ W8.cell? ⟨w.heap.size + 1, 2, none⟩ = some (.int .i64 oat) ∧ W8.cell? ⟨w.heap.size + 1, 3, none⟩ = some (.int .i64 ooff) ∧ W8.cell? ⟨w.heap.size + 1, 4, none⟩ = some (.string ⟨text.toArray⟩) ∧ W8.cell? ⟨w.heap.size + 1, 5, none⟩ = some (.slice A2 m cp2) ∧ W8.cell? ⟨w.heap.size + 1, 6, none⟩ = some (.int .u8 pk) ∧ W8.cell? ⟨w.heap.size + 1, 7, none⟩ = some (.int .u8 lv) ∧ W8.cell? ⟨w.heap.size + 1, 8, none⟩ = some (.int .u32 nx))
          clear x0 x1 x2 x3 x4 x5 x6 x7 x8
          go_region_held3 (fun W => W.cell? ⟨w.heap.size + 1, 0, none⟩ = some (.int .u8 (6 : Nat)) ∧ W.cell? ⟨w.heap.size + 1, 1, none⟩ = some (.int .u32 page) ∧ W.cell? ⟨w.heap.size + 1, 2, none⟩ = some (.int .i64 oat) ∧ W.cell? ⟨w.heap.size + 1, 3, none⟩ = some (.int .i64 ooff) ∧ W.cell? ⟨w.heap.size + 1, 4, none⟩ = some (.string ⟨text.toArray⟩) ∧ W.cell? ⟨w.heap.size + 1, 5, none⟩ = some (.slice A2 m cp2) ∧ W.cell? ⟨w.heap.size + 1, 6, none⟩ = some (.int .u8 pk) ∧ W.cell? ⟨w.heap.size + 1, 7, none⟩ = some (.int .u8 lv) ∧ W.cell? ⟨w.heap.size + 1, 8, none⟩ = some (.int .u32 nx))
            (first
              | (with_reducible exact KC.out _ D1.out)
              | (with_reducible exact KC.out _ hb7)
              | (with_reducible exact hS8))
            (first
              | (go_at_call 68; refine (does7_any W7 wc.heap.size w.heap.size p ⟨6, page, oat, ooff, text, orows, pk, lv, nx⟩ (.slice A2 m cp2) PR7 HU7 hs7 hgp HMAY.out rfl hn9).mono ?_; rintro e W8 ⟨rfl, h1, h2⟩; have H1 := Lib.hid h1; have H2 := HF.out W7 W8 hb7 h2; have hS8 := KS.out W7 W8 hb7 h2; clear h1 h2)
              | (go_at_call 36; refine (DO.out _).mono ?_; rintro e W7 ⟨mm, b3, b4, b8, rfl, hD, hb0⟩; have hb7 := below_then D1.out hb0; have nk : (Instr.lookup 77 (.map (some mm)) (.int .u8 6) false).run Tryz.prog W7 = .ok (.func (.func 68) #[] #[]) W7 := hD.1.look1 (k := 6) Tryz.underlying77 (z := .nilFunc) rfl (by decide) rfl; have PR7 := prow_below PR6.out hb7; have HU7 := HUU.out W7 hb7; have hs7 : wc.heap.size ≤ W7.heap.size := Nat.le_trans hs6 hb7.size; clear hb0))
          go_wp2_with fail
          go_meet
          exact ⟨rfl, H1, H2.1, H2.2.1, H2.2.2⟩
        · have KC := Lib.hid fun W (hW : Below W6.heap.size W6 W) => (⟨keep_cell hW x0, keep_cell hW x1, keep_cell hW x2, keep_cell hW x3, keep_cell hW x4, keep_cell hW x5, keep_cell hW x6, keep_cell hW x7, keep_cell hW x8⟩ : W.cell? ⟨w.heap.size + 1, 0, none⟩ = some (.int .u8 (7 : Nat)) ∧ W.cell? ⟨w.heap.size + 1, 1, none⟩ = some (.int .u32 page) ∧ W.cell? ⟨w.heap.size + 1, 2, none⟩ = some (.int .i64 oat) ∧ W.cell? ⟨w.heap.size + 1, 3, none⟩ = some (.int .i64 ooff) ∧ W.cell? ⟨w.heap.size + 1, 4, none⟩ = some (.string ⟨text.toArray⟩) ∧ W.cell? ⟨w.heap.size + 1, 5, none⟩ = some (.slice A2 m cp2) ∧ W.cell? ⟨w.heap.size + 1, 6, none⟩ = some (.int .u8 pk) ∧ W.cell? ⟨w.heap.size + 1, 7, none⟩ = some (.int .u8 lv) ∧ W.cell? ⟨w.heap.size + 1, 8, none⟩ = some (.int .u32 nx))
          have KS := Lib.hid fun W7 W8 (h7 : Below W6.heap.size W6 W7) (h8 : OthersKept W7 W8 (fun x => x = w.heap.size ∨ wc.heap.size ≤ x)) => (⟨h8.cell (keep_cell h7 x0) hnot, h8.cell (keep_cell h7 x1) hnot, h8.cell (keep_cell h7 x2) hnot, h8.cell (keep_cell h7 x3) hnot, h8.cell (keep_cell h7 x4) hnot, h8.cell (keep_cell h7 x5) hnot, h8.cell (keep_cell h7 x6) hnot, h8.cell (keep_cell h7 x7) hnot, h8.cell (keep_cell h7 x8) hnot⟩ : W8.cell? ⟨w.heap.size + 1, 0, none⟩ = some (.int .u8 (7 : Nat)) ∧ W8.cell? ⟨w.heap.size + 1, 1, none⟩ = some (.int .u32 page) ∧ W8.cell? ⟨w.heap.size + 1, 2, none⟩ = some (.int .i64 oat) ∧ W8.cell? ⟨w.heap.size + 1, 3, none⟩ = some (.int .i64 ooff) ∧ W8.cell? ⟨w.heap.size + 1, 4, none⟩ = some (.string ⟨text.toArray⟩) ∧ W8.cell? ⟨w.heap.size + 1, 5, none⟩ = some (.slice A2 m cp2) ∧ W8.cell? ⟨w.heap.size + 1, 6, none⟩ = some (.int .u8 pk) ∧ W8.cell? ⟨w.heap.size + 1, 7, none⟩ = some (.int .u8 lv) ∧ W8.cell? ⟨w.heap.size + 1, 8, none⟩ = some (.int .u32 nx))
          clear x0 x1 x2 x3 x4 x5 x6 x7 x8
          go_region_held3 (fun W => W.cell? ⟨w.heap.size + 1, 0, none⟩ = some (.int .u8 (7 : Nat)) ∧ W.cell? ⟨w.heap.size + 1, 1, none⟩ = some (.int .u32 page) ∧ W.cell? ⟨w.heap.size + 1, 2, none⟩ = some (.int .i64 oat) ∧ W.cell? ⟨w.heap.size + 1, 3, none⟩ = some (.int .i64 ooff) ∧ W.cell? ⟨w.heap.size + 1, 4, none⟩ = some (.string ⟨text.toArray⟩) ∧ W.cell? ⟨w.heap.size + 1, 5, none⟩ = some (.slice A2 m cp2) ∧ W.cell? ⟨w.heap.size + 1, 6, none⟩ = some (.int .u8 pk) ∧ W.cell? ⟨w.heap.size + 1, 7, none⟩ = some (.int .u8 lv) ∧ W.cell? ⟨w.heap.size + 1, 8, none⟩ = some (.int .u32 nx))
            (first
              | (with_reducible exact KC.out _ D1.out)
              | (with_reducible exact KC.out _ hb7)
              | (with_reducible exact hS8))
            (first
              | (go_at_call 69; refine (does8_any W7 wc.heap.size w.heap.size p ⟨7, page, oat, ooff, text, orows, pk, lv, nx⟩ (.slice A2 m cp2) PR7 HU7 hs7 hgp HMAY.out rfl hn9).mono ?_; rintro e W8 ⟨rfl, h1, h2⟩; have H1 := Lib.hid h1; have H2 := HF.out W7 W8 hb7 h2; have hS8 := KS.out W7 W8 hb7 h2; clear h1 h2)
              | (go_at_call 36; refine (DO.out _).mono ?_; rintro e W7 ⟨mm, b3, b4, b8, rfl, hD, hb0⟩; have hb7 := below_then D1.out hb0; have nk : (Instr.lookup 77 (.map (some mm)) (.int .u8 7) false).run Tryz.prog W7 = .ok (.func (.func 69) #[] #[]) W7 := hD.1.look1 (k := 7) Tryz.underlying77 (z := .nilFunc) rfl (by decide) rfl; have PR7 := prow_below PR6.out hb7; have HU7 := HUU.out W7 hb7; have hs7 : wc.heap.size ≤ W7.heap.size := Nat.le_trans hs6 hb7.size; clear hb0))
          go_wp2_with fail
          go_meet
          exact ⟨rfl, H1, H2.1, H2.2.1, H2.2.2⟩
        · have KC := Lib.hid fun W (hW : Below W6.heap.size W6 W) => (⟨keep_cell hW x0, keep_cell hW x1, keep_cell hW x2, keep_cell hW x3, keep_cell hW x4, keep_cell hW x5, keep_cell hW x6, keep_cell hW x7, keep_cell hW x8⟩ : W.cell? ⟨w.heap.size + 1, 0, none⟩ = some (.int .u8 (8 : Nat)) ∧ W.cell? ⟨w.heap.size + 1, 1, none⟩ = some (.int .u32 page) ∧ W.cell? ⟨w.heap.size + 1, 2, none⟩ = some (.int .i64 oat) ∧ W.cell? ⟨w.heap.size + 1, 3, none⟩ = some (.int .i64 ooff) ∧ W.cell? ⟨w.heap.size + 1, 4, none⟩ = some (.string ⟨text.toArray⟩) ∧ W.cell? ⟨w.heap.size + 1, 5, none⟩ = some (.slice A2 m cp2) ∧ W.cell? ⟨w.heap.size + 1, 6, none⟩ = some (.int .u8 pk) ∧ W.cell? ⟨w.heap.size + 1, 7, none⟩ = some (.int .u8 lv) ∧ W.cell? ⟨w.heap.size + 1, 8, none⟩ = some (.int .u32 nx))
          have KS := Lib.hid fun W7 W8 (h7 : Below W6.heap.size W6 W7) (h8 : OthersKept W7 W8 (fun x => x = w.heap.size ∨ wc.heap.size ≤ x)) => (⟨h8.cell (keep_cell h7 x0) hnot, h8.cell (keep_cell h7 x1) hnot, h8.cell (keep_cell h7 x2) hnot, h8.cell (keep_cell h7 x3) hnot, h8.cell (keep_cell h7 x4) hnot, h8.cell (keep_cell h7 x5) hnot, h8.cell (keep_cell h7 x6) hnot, h8.cell (keep_cell h7 x7) hnot, h8.cell (keep_cell h7 x8) hnot⟩ : W8.cell? ⟨w.heap.size + 1, 0, none⟩ = some (.int .u8 (8 : Nat)) ∧ W8.cell? ⟨w.heap.size + 1, 1, none⟩ = some (.int .u32 page) ∧ W8.cell? ⟨w.heap.size + 1, 2, none⟩ = some (.int .i64 oat) ∧ W8.cell? ⟨w.heap.size + 1, 3, none⟩ = some (.int .i64 ooff) ∧ W8.cell? ⟨w.heap.size + 1, 4, none⟩ = some (.string ⟨text.toArray⟩) ∧ W8.cell? ⟨w.heap.size + 1, 5, none⟩ = some (.slice A2 m cp2) ∧ W8.cell? ⟨w.heap.size + 1, 6, none⟩ = some (.int .u8 pk) ∧ W8.cell? ⟨w.heap.size + 1, 7, none⟩ = some (.int .u8 lv) ∧ W8.cell? ⟨w.heap.size + 1, 8, none⟩ = some (.int .u32 nx))
          clear x0 x1 x2 x3 x4 x5 x6 x7 x8
          go_region_held3 (fun W => W.cell? ⟨w.heap.size + 1, 0, none⟩ = some (.int .u8 (8 : Nat)) ∧ W.cell? ⟨w.heap.size + 1, 1, none⟩ = some (.int .u32 page) ∧ W.cell? ⟨w.heap.size + 1, 2, none⟩ = some (.int .i64 oat) ∧ W.cell? ⟨w.heap.size + 1, 3, none⟩ = some (.int .i64 ooff) ∧ W.cell? ⟨w.heap.size + 1, 4, none⟩ = some (.string ⟨text.toArray⟩) ∧ W.cell? ⟨w.heap.size + 1, 5, none⟩ = some (.slice A2 m cp2) ∧ W.cell? ⟨w.heap.size + 1, 6, none⟩ = some (.int .u8 pk) ∧ W.cell? ⟨w.heap.size + 1, 7, none⟩ = some (.int .u8 lv) ∧ W.cell? ⟨w.heap.size + 1, 8, none⟩ = some (.int .u32 nx))
            (first
              | (with_reducible exact KC.out _ D1.out)
              | (with_reducible exact KC.out _ hb7)
              | (with_reducible exact hS8))
            (first
              | (go_at_call 60; refine (row_any 70 W7 wc.heap.size w.heap.size b8 p ⟨8, page, oat, ooff, text, orows, pk, lv, nx⟩ (.slice A2 m cp2) PR7 HU7 hs7 hgp HMAY.out hD.2.2.2 (.inr (.inr rfl)) hn9 (fun W hW hin => does9_any W wc.heap.size w.heap.size p ⟨8, page, oat, ooff, text, orows, pk, lv, nx⟩ (.slice A2 m cp2) (prow_below PR7 hW) (HU7.below (hW)) (Nat.le_trans hs7 hW.size) hgp HMAY.out rfl hn9 hin (fun r hr => by have := (may_weight (HKM.out.resolve_left (by simp))).2.2 r hr; omega)) (fun h => by simp only [doB]; rw [if_neg h])).mono ?_; rintro e W8 ⟨rfl, h1, h2⟩; have H1 := Lib.hid h1; have H2 := HF.out W7 W8 hb7 h2; have hS8 := KS.out W7 W8 hb7 h2; clear h1 h2)
              | (go_at_call 36; refine (DO.out _).mono ?_; rintro e W7 ⟨mm, b3, b4, b8, rfl, hD, hb0⟩; have hb7 := below_then D1.out hb0; have nk : (Instr.lookup 77 (.map (some mm)) (.int .u8 8) false).run Tryz.prog W7 = .ok (.func (.func 60) #[] #[.pointer (some ⟨b8, 0, none⟩)]) W7 := hD.1.look1 (k := 8) Tryz.underlying77 (z := .nilFunc) rfl (by decide) rfl; have PR7 := prow_below PR6.out hb7; have HU7 := HUU.out W7 hb7; have hs7 : wc.heap.size ≤ W7.heap.size := Nat.le_trans hs6 hb7.size; clear hb0))
          go_wp2_with fail
          go_meet
          exact ⟨rfl, H1, H2.1, H2.2.1, H2.2.2⟩
      case rest =>
        obtain ⟨hs9, HPR, HRB, HB, hgl9⟩ := hcut
        subst hs9
        clear PR6 O6h R6h B6 hs6 O6
        have hwf := HWT.out
        have hr3 : ∀ q, q = (doB p o).2 → q = 0 ∨ q = 2 ∨ q = 3 := fun q hq => by rw [hq]; exact HER.out
        generalize doB p o = D at *
        obtain ⟨Q, err⟩ := D
        simp only at *
        have he := HER.out
        by_cases herr : err = 0
        · subst herr
          obtain ⟨sv', P9, V9⟩ := HPR.out rfl
          obtain ⟨b9, c9, hv9, _, _, _⟩ := own_form V9
          obtain ⟨k9, hk9⟩ : ∃ k, k = Q.rows.length := ⟨_, rfl⟩
          rw [← hk9] at hv9 V9
          subst hv9
          have HK9 := Lib.hid hk9
          obtain ⟨_, y0, y1, y2, y3, y4, y5⟩ := P9.cells
          obtain ⟨f0, f1, f2, f3, f4, f5⟩ := P9.fr
          have PA : PgBox (wc.setCell ⟨w.heap.size, 3, none⟩ (.int .u64 lsn)) w.heap.size Q.kind Q.level Q.id lsn Q.next (.slice b9 k9 c9) := P9.set3 lsn
          have VA := own_set_far (g := w.heap.size) (i := 3) (u := .int .u64 lsn) V9 (fun j hj => pbox_apart P9 V9 j hj)
          have RA : PgBox (wc.setCell ⟨w.heap.size, 3, none⟩ (.int .u64 lsn)) (w.heap.size + 1 + 1) 0 0 0 0 0 (.slice none 0 0) := set_keep HRB.out (by omega)
          have BA := Lib.hid (OthersKept.below HB.out (one_kept wc w.heap.size 3 (.int .u64 lsn)) (fun k hk e => by omega))
          have hgA : w.heap.size + 1 + 1 < (wc.setCell ⟨w.heap.size, 3, none⟩ (.int .u64 lsn)).heap.size := by simp; exact hgl9
          have hTA := (texts_own VA).1
          have MY := Lib.hid fun W (hB : Below (wc.setCell ⟨w.heap.size, 3, none⟩ (.int .u64 lsn)).heap.size (wc.setCell ⟨w.heap.size, 3, none⟩ (.int .u64 lsn)) W) => pageMay_any (Q.lsnTo lsn) (.slice b9 k9 c9) W ⟨hwf.1.1, hwf.1.2.1, hwf.1.2.2.1, hl, hwf.1.2.2.2.2⟩ (hTA.below hB) (by show weightB Q.rows ≤ 1000000; omega)
          have HVA := Lib.hid VA
          obtain ⟨my, hmy⟩ : ∃ b, b = (Q.lsnTo lsn).may := ⟨_, rfl⟩
          rw [← hmy] at MY
          unfold pgV at MY
          have HMY := Lib.hid hmy
          have HR0 : Hid (R = if my = true then (Q.lsnTo lsn, 0) else (Pg.zero, 4)) := by
            show _ = _
            rw [HRR.out, if_pos rfl, hmy]
          simp only [Pg.lsnTo] at MY HR0
          have e0 : ((0 : Int) != 0) = false := rfl
          clear hk9 hmy P9 V9 VA HPR HRR hwf he HER hr3 HRB HB hTA HWT
          go_upto_region 8 with fail
          generalize wc.setCell ⟨w.heap.size, 3, none⟩ (.int .u64 lsn) = wA at *
          clear y0 y1 y2 y3 y4 y5 f0 f1 f2 f3 f4 f5
          obtain ⟨_, y0, y1, y2, y3, y4, y5⟩ := PA.cells
          go_wp2_with fail
          refine (MY.out _ (Below.refl _ _)).mono ?_
          rintro e wB ⟨rfl, hb⟩
          have PB := PA.below hb
          have RB := Lib.hid (RA.below hb)
          have BB := Lib.hid (BA.out.trans (hb.mono (by omega)))
          have VB := Lib.hid (own_below HVA.out hb)
          have hgB : w.heap.size + 1 + 1 < wB.heap.size := Nat.lt_of_lt_of_le hgA hb.size
          clear hb MY PA RA BA HVA y0 y1 y2 y3 y4 y5
          obtain ⟨_, y0, y1, y2, y3, y4, y5⟩ := PB.cells
          obtain ⟨_, z0, z1, z2, z3, z4, z5⟩ := RB.out.cells
          obtain ⟨f0, f1, f2, f3, f4, f5⟩ := RB.out.fr
          clear PB
          cases my with
          | false =>
            have HX : Hid (R = (Pg.zero, 4)) := HR0.out
            clear HR0 HMY
            go_wp2_with fail
            have XB := Lib.hid (RB.out.put 0 0 0 0 0 (.slice none 0 0))
            have XK := Lib.hid (OthersKept.below BB.out (setPg_kept wB (w.heap.size + 1 + 1) 0 0 0 0 0 (.slice none 0 0)) (fun k hk e => by omega))
            refine bodyPost_ret (v := .tuple #[.agg #[.int .u8 (0 : Nat), .int .u8 (0 : Nat), .int .u32 (0 : Nat), .int .u64 (0 : Nat), .int .u32 (0 : Nat), .slice none 0 0], .int .i64 4]) (results_pg (p := 6) (u := 7) (by kernel_rfl) _ _ rfl XB.out) rfl ?_
            exact PgPostF.no HX.out XK.out
          | true =>
            have HX : Hid (R = (⟨Q.kind, Q.level, Q.id, lsn, Q.next, Q.rows⟩, 0)) := HR0.out
            clear HR0 HMY
            go_wp2_with fail
            have XB := Lib.hid (RB.out.put Q.kind Q.level Q.id lsn Q.next (.slice b9 k9 c9))
            have XKK := Lib.hid (setPg_kept wB (w.heap.size + 1 + 1) Q.kind Q.level Q.id lsn Q.next (.slice b9 k9 c9))
            have XK := Lib.hid (OthersKept.below BB.out XKK.out (fun k hk e => by omega))
            refine bodyPost_ret (v := .tuple #[.agg #[.int .u8 Q.kind, .int .u8 Q.level, .int .u32 Q.id, .int .u64 lsn, .int .u32 Q.next, .slice b9 k9 c9], .int .i64 0]) (results_pg (p := 6) (u := 7) (by kernel_rfl) _ _ rfl XB.out) rfl ?_
            refine ⟨.slice b9 k9 c9, by rw [HX.out]; rfl, ?_, XK.out, fun k hk => by have := (VB.out.lt k hk).1; omega⟩
            rw [HX.out]
            exact (texts_own (XKK.out.owns VB.out (fun j hj e => pbox_apart RB.out VB.out j hj e))).1
        · have hne : (err != 0) = true := by simp; omega
          have HX : Hid (R = (Pg.zero, err)) := by show _ = _; rw [HRR.out, if_neg herr]
          obtain ⟨_, y0, y1, y2, y3, y4, y5⟩ := HRB.out.cells
          obtain ⟨f0, f1, f2, f3, f4, f5⟩ := HRB.out.fr
          clear HRR HER HPR herr he hr3
          go_wp2_with fail
          have XB := Lib.hid (HRB.out.put 0 0 0 0 0 (.slice none 0 0))
          have XK := Lib.hid (OthersKept.below HB.out (setPg_kept _ (w.heap.size + 1 + 1) 0 0 0 0 0 (.slice none 0 0)) (fun k hk e => by omega))
          refine bodyPost_ret (v := .tuple #[.agg #[.int .u8 (0 : Nat), .int .u8 (0 : Nat), .int .u32 (0 : Nat), .int .u64 (0 : Nat), .int .u32 (0 : Nat), .slice none 0 0], .int .i64 err]) (results_pg (p := 6) (u := 7) (by kernel_rfl) _ _ rfl XB.out) rfl ?_
          exact PgPostF.no HX.out XK.out
theorem opApply_any (p : Pg) (o : Od) (sv tv : Value) (lsn : Nat) (w : World) (ht : TextsAt w sv p.rows) (hu : TextsAt w tv o.rows) (hp : p.wf) (hw : o.wf) (hs : o.small) (hl : lsn < 256 ^ 8) (hb : weightB p.rows ≤ 1000000) (hn : p.rows.length ≤ 900000) :
    Calls Tryz.prog 16 #[pgV p sv, odV o tv, .int .u64 lsn] w (PgPost w (applyB p o lsn)) :=
  (opApplyF_any p o sv tv lsn w ht hu hp hw hs hl hb hn).mono fun e w' ⟨v, h1, h2, h3, _⟩ => ⟨v, h1, h2, h3⟩
end Go.Proofs.YtienlhnbmobinaaGreat
end
