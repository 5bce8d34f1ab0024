/- op.Redo -/
import Derived.Test.YtienlhnbmobinaaRows
import Derived.Test.YtienlhnbmobinaaOpApply
import Derived.Test.YtienlhnbmobinaaOpDoesMap
import Derived.Test.YtienlhnbmobinaaOpDoes
import Derived.Test.YtienlhnbmobinaaRefBytes11
import Derived.Test.YtienlhnbmobinaaOpLaw
import Derived.Test.YtienlhnbmobinaaOpEnc
import Derived.Test.YtienlhnbmobinaaOpIn
import Derived.Test.YtienlhnbmobinaaHeavy11
import Derived.Test.YtienlhnbmobinaaOpPlain
import Derived.Test.YtienlhnbmobinaaOpPart
import Derived.Test.YtienlhnbmobinaaTextsMove
import Derived.Test.YtienlhnbmobinaaTextsP
import Derived.Test.YtienlhnbmobinaaPlains
import Derived.Test.YtienlhnbmobinaaBase
import Derived.WalkKit
import Derived.WalkLawsBesides
import Derived.WalkSpells
import Derived.LoopTactic
import Derived.WalkMore
import Derived.LoopN
import Derived.Laws.BitsAllLaws
import Derived.Laws.IdiomStrings
import Derived.BigQuiet
import Derived.Deep.QuietTactic
import Derived.Deep.DeepCutAuto
import Derived.Deep.RegionHeld3
import Derived.Deep.DrawnRows
import Derived.Lib.Hide
import Derived.Outline
import Derived.Deep.DeepMust
import Derived.Handy
namespace Go.Proofs.Ytienlhnbmobinaa
open Go.RowKit
set_option linter.unusedVariables false
set_option linter.unusedSimpArgs false

def redoGo (p : Pg) (lsn : Nat) : List Od → Pg → Pg × Int
  | [], q => (q, 0)
  | o :: l, q => if o.page = p.id then (if (applyB q o lsn).2 = 0 then redoGo p lsn l (applyB q o lsn).1 else (p, (applyB q o lsn).2)) else redoGo p lsn l q
/-- A page with a list done again. -/
def redoB (p : Pg) (lsn : Nat) (l : List Od) : Pg × Int := if lsn ≤ p.lsn then (p, 0) else redoGo p lsn l p
theorem applyB_ok {p : Pg} {o : Od} {lsn : Nat} (hp : p.wf) (ho : o.wf) (hl : lsn < 256 ^ 8) (h : (applyB p o lsn).2 = 0) : (applyB p o lsn).1.wf ∧ (applyB p o lsn).1.may = true ∧ (applyB p o lsn).1.lsn = lsn := by
  unfold applyB at h ⊢
  by_cases h1 : doOk p o = true
  · rw [if_pos h1] at h ⊢
    by_cases h2 : (doB p o).2 = 0
    · rw [if_pos h2] at h ⊢
      by_cases h3 : ((doB p o).1.lsnTo lsn).may = true
      · rw [if_pos h3]
        have hm : o.may = true := by
          unfold doOk at h1
          rw [Bool.and_eq_true] at h1
          exact h1.1
        have hk : o.kind = 1 ∨ p.may = true := by
          unfold doOk at h1
          rw [Bool.and_eq_true, Bool.or_eq_true, Bool.and_eq_true, decide_eq_true_eq] at h1
          rcases h1.2 with h | h
          · exact .inl h
          · exact .inr h.1
        obtain ⟨⟨q1, q2, q3, q4, q5⟩, _⟩ := doB_ok p o hp ho hm hk
        exact ⟨⟨q1, q2, q3, hl, q5⟩, h3, rfl⟩
      · rw [if_neg h3] at h
        exact absurd h (by decide)
    · rw [if_neg h2] at h
      exact absurd h h2
  · rw [if_neg h1] at h
    exact absurd h (by decide)
theorem texts_page {w w' : World} {g kind level id lsn next : Nat} {s v : Value} {ts : List (List UInt8)} (h : PgBox w g kind level id lsn next s) (ht : TextsAt w v ts) (hk : OthersKept w w' (fun x => x = g)) (hs : True → ∀ x : ByteArray, s ≠ .string x) : TextsAt w' v ts := by
  obtain ⟨A, cp, h1, h2, h3, h4, h5⟩ := ht
  refine ⟨A, cp, h1, h2, h3, h4, fun h0 => ?_⟩
  obtain ⟨b, o, e1, e2, e3⟩ := h5 h0
  refine ⟨b, o, e1, Nat.lt_of_lt_of_le e2 hk.size, fun j hj => ?_⟩
  have h6 := e3 j hj
  refine hk.cell h6 (fun e => ?_)
  simp only at e
  subst e
  have hc := blk_cell h (o + j)
  rw [h6] at hc
  have hlt : o + j < 6 := by
    rcases Nat.lt_or_ge (o + j) 6 with h | h
    · exact h
    · rw [Array.getElem?_eq_none (by simpa using h)] at hc
      cases hc
  have h7 : o + j = 0 ∨ o + j = 1 ∨ o + j = 2 ∨ o + j = 3 ∨ o + j = 4 ∨ o + j = 5 := by omega
  rcases h7 with h7 | h7 | h7 | h7 | h7 | h7 <;> rw [h7] at hc <;> simp at hc
  exact hs trivial _ hc.symm
/-- What a call leaves that gives a page and an error, the page's rows where they were or in a block of its own. -/
def PgPostG (w : World) (sv0 : Value) (R : Pg × Int) (e : Ending) (w' : World) : Prop := ∃ sv, e = .returned (.tuple #[pgV R.1 sv, .int .i64 R.2]) ∧ TextsAt w' sv R.1.rows ∧ Below w.heap.size w w' ∧ (sv = sv0 ∨ ∀ k, sv.ownBlock = some k → w.heap.size ≤ k)
set_option maxHeartbeats 4000000 in
set_option maxRecDepth 100000 in
theorem opRedoG_any (p : Pg) (sv v : Value) (lsn : Nat) (L : List Ov) (w : World) (ht : TextsAt w sv p.rows) (hp : p.wf) (hl : lsn < 256 ^ 8) (hb : weightB p.rows ≤ 1000000) (hL : OpsAt w v L) (hw : ∀ e ∈ L, e.o.wf) (hs : ∀ e ∈ L, e.o.small) :
    Calls Try.prog 21 #[pgV p sv, .int .u64 lsn, v] w (PgPostG w sv (redoB p lsn (L.map Ov.o))) := by
  have HT := Lib.hid fun W (hB : Below w.heap.size w W) => ht.below hB
  obtain ⟨R, hR⟩ : ∃ R, R = redoB p lsn (L.map Ov.o) := ⟨_, rfl⟩
  rw [← hR]
  have HR := Lib.hid hR
  have HP := Lib.hid hp
  have HW := Lib.hid hw
  have HS := Lib.hid hs
  obtain ⟨A, cp, rfl, hcp⟩ := ht
  have HCP := Lib.hid hcp
  obtain ⟨VA, vcp, rfl, h2, h3, h4, h5⟩ := hL
  obtain ⟨n, hn⟩ : ∃ n, n = L.length := ⟨_, rfl⟩
  rw [← hn] at h2 ⊢
  unfold maxLen at h3
  have H4 := Lib.hid h4
  have H5 := Lib.hid h5
  have HN := Lib.hid hn
  obtain ⟨pn, hpn⟩ : ∃ k, k = p.rows.length := ⟨_, rfl⟩
  rw [← hpn] at HT ⊢
  have HPN := Lib.hid hpn
  clear hR hp hw hs h4 h5 hn hpn hcp
  unfold pgV
  obtain ⟨W1, hW1⟩ : ∃ W, W = w.alloc (.cells #[.int .u8 p.kind, .int .u8 p.level, .int .u32 p.id, .int .u64 p.lsn, .int .u32 p.next, .slice A pn cp] 26) := ⟨_, rfl⟩
  obtain ⟨W2, hW2⟩ : ∃ W, W = W1.alloc (.cells #[.int .u8 0, .int .u8 0, .int .u32 0, .int .u64 0, .int .u32 0, .slice none 0 0] 26) := ⟨_, rfl⟩
  have hz1 : W1.heap.size = w.heap.size + 1 := by rw [hW1]; simp
  have hz2 : W2.heap.size = w.heap.size + 1 + 1 := by rw [hW2]; simp [hz1]
  have b1 : Below w.heap.size w W1 := by rw [hW1]; exact alloc_below _ _
  have b2 : Below W1.heap.size W1 W2 := by rw [hW2]; exact alloc_below _ _
  have B2 := Lib.hid (below_then b1 b2)
  have P2 : PgBox W2 w.heap.size p.kind p.level p.id p.lsn p.next (.slice A pn cp) := by
    have h : PgBox W1 w.heap.size p.kind p.level p.id p.lsn p.next (.slice A pn cp) := by rw [hW1]; exact PgBox.new _ _ _ _ _ _ _
    exact h.below b2
  have R2 : PgBox W2 (w.heap.size + 1) 0 0 0 0 0 (.slice none 0 0) := by rw [hW2, ← hz1]; exact PgBox.new _ _ _ _ _ _ _
  go_enter Try.func21, Try.ntmps21
  clear b1 b2
  go_upto_region 1 with fail
  rw [← hW1, ← hW2]
  have HZ2 := Lib.hid hz2
  clear hW1 hW2 hz1 hz2 W1
  obtain ⟨_, p0, p1, p2, p3, p4, p5⟩ := P2.cells
  have P2 := Lib.hid P2
  have R2 := Lib.hid R2
  by_cases hc : lsn ≤ p.lsn
  · have hci : (lsn : Int) ≤ (p.lsn : Int) := by omega
    have HX : Hid (R = (p, 0)) := by show _ = _; rw [HR.out]; unfold redoB; rw [if_pos hc]
    obtain ⟨_, y0, y1, y2, y3, y4, y5⟩ := R2.out.cells
    obtain ⟨f0, f1, f2, f3, f4, f5⟩ := R2.out.fr
    clear HR hc
    go_wp2_with fail
    have XB := Lib.hid (R2.out.put p.kind p.level p.id p.lsn p.next (.slice A pn cp))
    have XKK := Lib.hid (setPg_kept W2 (w.heap.size + 1) p.kind p.level p.id p.lsn p.next (.slice A pn cp))
    have XK := Lib.hid (OthersKept.below B2.out XKK.out (fun k hk e => by omega))
    refine bodyPost_ret (v := .tuple #[.agg #[.int .u8 p.kind, .int .u8 p.level, .int .u32 p.id, .int .u64 p.lsn, .int .u32 p.next, .slice A pn cp], .int .i64 0]) (results_pg (p := 6) (u := 7) (by kernel_rfl) _ _ rfl XB.out) rfl ?_
    refine ⟨.slice A pn cp, by rw [HX.out]; rfl, ?_, XK.out, .inl rfl⟩
    rw [HX.out]
    exact HT.out _ XK.out
  · have hci : ¬ (lsn : Int) ≤ (p.lsn : Int) := by omega
    have HX : Hid (R = redoGo p lsn (L.map Ov.o) p) := by show _ = _; rw [HR.out]; unfold redoB; rw [if_neg hc]
    have Q3 : PgBox (W2.alloc (.cells #[.int .u8 p.kind, .int .u8 p.level, .int .u32 p.id, .int .u64 p.lsn, .int .u32 p.next, .slice A pn cp] 26)) (w.heap.size + 1 + 1) p.kind p.level p.id p.lsn p.next (.slice A pn cp) := by rw [← HZ2.out]; exact PgBox.new _ _ _ _ _ _ _
    have B3 := Lib.hid (B2.out.alloc B2.out.size (.cells #[.int .u8 p.kind, .int .u8 p.level, .int .u32 p.id, .int .u64 p.lsn, .int .u32 p.next, .slice A pn cp] 26))
    have A3 := Lib.hid (alloc_below W2 (.cells #[.int .u8 p.kind, .int .u8 p.level, .int .u32 p.id, .int .u64 p.lsn, .int .u32 p.next, .slice A pn cp] 26))
    have P3 := Lib.hid (P2.out.below A3.out)
    have R3 := Lib.hid (R2.out.below A3.out)
    have HQ3 := Lib.hid Q3
    have hzz : W2.heap.size = w.heap.size + 1 + 1 := HZ2.out
    clear HR hc Q3 P2 R2
    go_upto_region 4 with fail
    generalize W2.alloc (.cells #[.int .u8 p.kind, .int .u8 p.level, .int .u32 p.id, .int .u64 p.lsn, .int .u32 p.next, .slice A pn cp] 26) = W3 at *
    have HL0 : Hid (R = redoGo p lsn ((L.map Ov.o).drop 0) p) := HX.out
    have hq0 : Hid (pn = p.rows.length ∧ p.wf ∧ weightB p.rows ≤ 1000000) := Lib.hid ⟨HPN.out, HP.out, hb⟩
    have HT3 := Lib.hid (HT.out W3 B3.out)
    clear HX HZ2 A3 B2 p0 p1 p2 p3 p4 p5 hci hzz
    go_wp2_with fail
    go_loopw [20] (fun s20 wr => ∃ (i : Nat) (q : Pg) (qa : Option Addr) (qn qc : Nat), s20 = .int .i64 i ∧ i ≤ n ∧ Hid (qn = q.rows.length ∧ q.wf ∧ weightB q.rows ≤ 1000000) ∧ Hid (TextsAt wr (.slice qa qn qc) q.rows) ∧ Hid (PgBox wr (w.heap.size + 1 + 1) q.kind q.level q.id q.lsn q.next (.slice qa qn qc)) ∧ Hid (PgBox wr w.heap.size p.kind p.level p.id p.lsn p.next (.slice A pn cp)) ∧ Hid (PgBox wr (w.heap.size + 1) 0 0 0 0 0 (.slice none 0 0)) ∧ Hid (Below w.heap.size w wr) ∧ Hid (R = redoGo p lsn ((L.map Ov.o).drop i) q) ∧ Hid (Value.slice qa qn qc = .slice A pn cp ∨ ∀ k, (Value.slice qa qn qc).ownBlock = some k → w.heap.size ≤ k)) (fun v _ => n - (intOf v).toNat)
    case atStart => exact ⟨0, p, A, pn, cp, rfl, Nat.zero_le _, hq0, HT3, HQ3, P3, R3, B3, HL0, Lib.hid (.inl rfl)⟩
    case round =>
      obtain ⟨i, q, qa, qn, qc, rfl, hi, HQ, HTQ, HQB, HPB, HRB, HB, HGO, HF⟩ := hrel
      clear P3 R3 B3 HQ3 HT3 HL0 hq0
      by_cases hc2 : i < n
      · have hci : (i : Int) < (n : Int) := by omega
        have q1 : (0 : Int) ≤ (i : Int) := by omega
        have hil : i < L.length := by rw [← HN.out]; exact hc2
        have hdrop : (L.map Ov.o).drop i = L[i].o :: (L.map Ov.o).drop (i + 1) := by
          rw [List.drop_eq_getElem_cons (by simpa using hil)]
          simp
        obtain ⟨b0, o0, rfl, hb0, hcell⟩ := H4.out (by rw [← HN.out]; omega)
        have hte := H5.out L[i] (List.getElem_mem hil)
        have hx := hcell i hil
        have hwe := HW.out L[i] (List.getElem_mem hil)
        have hse := HS.out L[i] (List.getElem_mem hil)
        have hgo := HGO.out
        rw [hdrop] at hgo
        clear hcell hdrop HGO
        generalize L[i] = e at *
        obtain ⟨x0, x1, x2, x3, x4, x5, x6, x7, x8⟩ := ov_cells (w := wr) (b := b0) (o := o0 + i * 9) (e := e) (fun j v hv => (HB.out.cell (p := ⟨b0, o0 + i * 9 + j, none⟩) hb0).trans (hx j v hv))
        have hte2 := hte.below HB.out
        clear hx hte
        obtain ⟨⟨ok, page, oat, ooff, text, orows, pk, lv, nx⟩, eb, ec⟩ := e
        simp only [Ov.sv] at *
        obtain ⟨rl, hrl⟩ : ∃ k, k = orows.length := ⟨_, rfl⟩
        rw [← hrl] at x5 hte2
        have A5 := Lib.hid (alloc_below wr (.cells #[.int .u8 ok, .int .u32 page, .int .i64 oat, .int .i64 ooff, .string ⟨text.toArray⟩, .slice eb rl ec, .int .u8 pk, .int .u8 lv, .int .u32 nx] 28))
        have B5 := Lib.hid (HB.out.alloc HB.out.size (.cells #[.int .u8 ok, .int .u32 page, .int .i64 oat, .int .i64 ooff, .string ⟨text.toArray⟩, .slice eb rl ec, .int .u8 pk, .int .u8 lv, .int .u32 nx] 28))
        have AP := Lib.hid (opApplyF_any q ⟨ok, page, oat, ooff, text, orows, pk, lv, nx⟩ (.slice qa qn qc) (.slice eb rl ec) lsn _ (HTQ.out.below A5.out) (hte2.below A5.out) HQ.out.2.1 hwe hse hl HQ.out.2.2 (by have := weightB_eq q.rows; have := HQ.out.2.2; omega))
        have AOK := Lib.hid fun h => applyB_ok (p := q) (o := ⟨ok, page, oat, ooff, text, orows, pk, lv, nx⟩) (lsn := lsn) HQ.out.2.1 hwe hl h
        unfold pgV odV at AP
        have HGO := Lib.hid hgo
        have Q5 := Lib.hid (HQB.out.below A5.out)
        have P5 := Lib.hid (HPB.out.below A5.out)
        have R5 := Lib.hid (HRB.out.below A5.out)
        have T5 := Lib.hid (HTQ.out.below A5.out)
        have X5 := Lib.hid (show OAt (wr.alloc (.cells #[.int .u8 ok, .int .u32 page, .int .i64 oat, .int .i64 ooff, .string ⟨text.toArray⟩, .slice eb rl ec, .int .u8 pk, .int .u8 lv, .int .u32 nx] 28)) wr.heap.size ⟨ok, page, oat, ooff, text, orows, pk, lv, nx⟩ (.slice eb rl ec) from by
          have h := heap_alloc_new wr (.cells #[.int .u8 ok, .int .u32 page, .int .i64 oat, .int .i64 ooff, .string ⟨text.toArray⟩, .slice eb rl ec, .int .u8 pk, .int .u8 lv, .int .u32 nx] 28)
          exact h)
        clear hgo hte2 hwe hse hrl HQB HPB HRB HTQ HB
        go_upto_region 7 with fail
        generalize wr.alloc (.cells #[.int .u8 ok, .int .u32 page, .int .i64 oat, .int .i64 ooff, .string ⟨text.toArray⟩, .slice eb rl ec, .int .u8 pk, .int .u8 lv, .int .u32 nx] 28) = W5 at *
        clear x0 x1 x2 x3 x4 x5 x6 x7 x8
        have hgl5 : wr.heap.size < W5.heap.size := blk_lt X5.out
        obtain ⟨x0, x1, x2, x3, x4, x5, x6, x7, x8⟩ := X5.out.cells
        simp only at x0 x1 x2 x3 x4 x5 x6 x7 x8
        obtain ⟨_, p0, p1, p2, p3, p4, p5⟩ := P5.out.cells
        have hzR := R5.out.lt
        by_cases hpg : page = p.id
        · have hpi : ((page : Int) != (p.id : Int)) = false := by simp; omega
          obtain ⟨_, y0, y1, y2, y3, y4, y5⟩ := Q5.out.cells
          have hgo2 := HGO.out
          rw [redoGo, if_pos hpg] at hgo2
          obtain ⟨D, hD⟩ : ∃ D, D = applyB q ⟨ok, page, oat, ooff, text, orows, pk, lv, nx⟩ lsn := ⟨_, rfl⟩
          rw [← hD] at AP AOK hgo2
          have HGO2 := Lib.hid hgo2
          clear hgo2 HGO hD hpg
          obtain ⟨D, err⟩ := D
          simp only at AOK HGO2
          go_wp2_with fail
          refine AP.out.mono ?_
          rintro e W6 ⟨sv', rfl, ht', hb6, hf6⟩
          simp only at ht'
          have P6 := Lib.hid (P5.out.below hb6)
          have R6 := Lib.hid (R5.out.below hb6)
          have Q6 := Lib.hid (Q5.out.below hb6)
          have B6 := Lib.hid (B5.out.trans (hb6.mono B5.out.size))
          have T6 := Lib.hid ht'
          obtain ⟨da, dc, rfl, _⟩ := ht'
          obtain ⟨dn, hdn⟩ : ∃ k, k = D.rows.length := ⟨_, rfl⟩
          rw [← hdn] at T6 ⊢
          have HDN := Lib.hid hdn
          have HF7 : Hid (Value.slice da dn dc = .slice A pn cp ∨ ∀ k, (Value.slice da dn dc).ownBlock = some k → w.heap.size ≤ k) := Lib.hid (.inr fun k hk => Nat.le_trans B5.out.size (hf6 k (by rw [← hdn]; exact hk)))
          clear hf6
          unfold pgV
          (try simp only)
          clear y0 y1 y2 y3 y4 y5 p0 p1 p2 p3 p4 p5 x0 x1 x2 x3 x4 x5 x6 x7 x8 hb6 hdn AP Q5 P5 R5 T5 X5 B5 A5
          have hzQ := Q6.out.lt
          obtain ⟨_, y0, y1, y2, y3, y4, y5⟩ := Q6.out.cells
          obtain ⟨f0, f1, f2, f3, f4, f5⟩ := Q6.out.fr
          go_upto_region 10 with fail
          show Code.wp _ _ _ _ (setPg W6 (w.heap.size + 1 + 1) D.kind D.level D.id D.lsn D.next (.slice da dn dc))
          have hk7 := setPg_kept W6 (w.heap.size + 1 + 1) D.kind D.level D.id D.lsn D.next (.slice da dn dc)
          have Q7 := Lib.hid (Q6.out.put D.kind D.level D.id D.lsn D.next (.slice da dn dc))
          have P7 := Lib.hid (P6.out.kept hk7 (by omega))
          have R7 := Lib.hid (R6.out.kept hk7 (by omega))
          have B7 := Lib.hid (OthersKept.below B6.out hk7 (fun k hk e => by omega))
          have T7 := Lib.hid (texts_page Q6.out T6.out hk7 (fun h x e => by cases e))
          generalize setPg W6 (w.heap.size + 1 + 1) D.kind D.level D.id D.lsn D.next (.slice da dn dc) = W7 at *
          clear hk7 Q6 P6 R6 B6 T6 y0 y1 y2 y3 y4 y5 f0 f1 f2 f3 f4 f5
          by_cases her : err = 0
          · subst her
            have e0 : ((0 : Int) != 0) = false := rfl
            have HN2 : Hid (R = redoGo p lsn ((L.map Ov.o).drop (i + 1)) D) := by show _ = _; rw [HGO2.out, if_pos rfl]
            have HOK2 : Hid (dn = D.rows.length ∧ D.wf ∧ weightB D.rows ≤ 1000000) := by
              obtain ⟨h1, h2, _⟩ := AOK.out rfl
              have h3 := (may_weight h2).1
              exact ⟨HDN.out, h1, by omega⟩
            clear HGO2 AOK HDN
            go_wp2_with fail
            go_roundw
            case rel => exact ⟨i + 1, D, da, dn, dc, by go_num, by omega, HOK2, T7, Q7, P7, R7, B7, HN2, HF7⟩
            case measure => simp [intOf] <;> omega
          · have hei : (err != 0) = true := by simp; omega
            have HX2 : Hid (R = (p, err)) := by show _ = _; rw [HGO2.out, if_neg her]
            obtain ⟨_, z0, z1, z2, z3, z4, z5⟩ := R7.out.cells
            obtain ⟨f0, f1, f2, f3, f4, f5⟩ := R7.out.fr
            obtain ⟨_, p0, p1, p2, p3, p4, p5⟩ := P7.out.cells
            clear HGO2 AOK her HDN
            go_wp2_with fail
            have XB := Lib.hid (R7.out.put p.kind p.level p.id p.lsn p.next (.slice A pn cp))
            have XKK := Lib.hid (setPg_kept W7 (w.heap.size + 1) p.kind p.level p.id p.lsn p.next (.slice A pn cp))
            have XK := Lib.hid (OthersKept.below B7.out XKK.out (fun k hk e => by omega))
            refine bodyPost_ret (v := .tuple #[.agg #[.int .u8 p.kind, .int .u8 p.level, .int .u32 p.id, .int .u64 p.lsn, .int .u32 p.next, .slice A pn cp], .int .i64 err]) (results_pg (p := 6) (u := 7) (by kernel_rfl) _ _ rfl XB.out) rfl ?_
            refine ⟨.slice A pn cp, by rw [HX2.out]; rfl, ?_, XK.out, .inl rfl⟩
            rw [HX2.out]
            exact HT.out _ XK.out
        · have hpi : ((page : Int) != (p.id : Int)) = true := by simp; omega
          have HN2 : Hid (R = redoGo p lsn ((L.map Ov.o).drop (i + 1)) q) := by show _ = _; rw [HGO.out, redoGo, if_neg hpg]
          clear HGO AP AOK hpg
          go_wp2_with fail
          go_roundw
          case rel => exact ⟨i + 1, q, qa, qn, qc, by go_num, by omega, HQ, T5, Q5, P5, R5, B5, HN2, HF⟩
          case measure => simp [intOf] <;> omega
      · have hci : ¬ (i : Int) < (n : Int) := by omega
        have hnil : (L.map Ov.o).drop i = [] := by
          rw [List.drop_eq_nil_iff, List.length_map, ← HN.out]
          omega
        have HX2 : Hid (R = (q, 0)) := by show _ = _; rw [HGO.out, hnil, redoGo]
        have hzR := HRB.out.lt
        obtain ⟨_, y0, y1, y2, y3, y4, y5⟩ := HQB.out.cells
        obtain ⟨_, z0, z1, z2, z3, z4, z5⟩ := HRB.out.cells
        obtain ⟨f0, f1, f2, f3, f4, f5⟩ := HRB.out.fr
        clear HGO hnil
        go_wp2_with fail
        have XB := Lib.hid (HRB.out.put q.kind q.level q.id q.lsn q.next (.slice qa qn qc))
        have XKK := Lib.hid (setPg_kept wr (w.heap.size + 1) q.kind q.level q.id q.lsn q.next (.slice qa qn qc))
        have XK := Lib.hid (OthersKept.below HB.out XKK.out (fun k hk e => by omega))
        refine bodyPost_ret (v := .tuple #[.agg #[.int .u8 q.kind, .int .u8 q.level, .int .u32 q.id, .int .u64 q.lsn, .int .u32 q.next, .slice qa qn qc], .int .i64 0]) (results_pg (p := 6) (u := 7) (by kernel_rfl) _ _ rfl XB.out) rfl ?_
        refine ⟨.slice qa qn qc, by rw [HX2.out]; rfl, ?_, XK.out, HF.out⟩
        rw [HX2.out]
        exact texts_page HRB.out HTQ.out XKK.out (fun h x e => by cases e)
theorem opRedo_any (p : Pg) (sv v : Value) (lsn : Nat) (L : List Ov) (w : World) (ht : TextsAt w sv p.rows) (hp : p.wf) (hl : lsn < 256 ^ 8) (hb : weightB p.rows ≤ 1000000) (hL : OpsAt w v L) (hw : ∀ e ∈ L, e.o.wf) (hs : ∀ e ∈ L, e.o.small) :
    Calls Try.prog 21 #[pgV p sv, .int .u64 lsn, v] w (PgPost w (redoB p lsn (L.map Ov.o))) :=
  (opRedoG_any p sv v lsn L w ht hp hl hb hL hw hs).mono fun e w' ⟨v, h1, h2, h3, _⟩ => ⟨v, h1, h2, h3⟩

end Go.Proofs.Ytienlhnbmobinaa
