/- ref11.Redo by redoB -/
import Derived.Test.YtienlhnbmobinaaRows
import Derived.Test.YtienlhnbmobinaaRefApply
import Derived.Test.YtienlhnbmobinaaOpRedo11
import Derived.Test.YtienlhnbmobinaaOpApply
import Derived.Test.YtienlhnbmobinaaPgStore
import Derived.Test.YtienlhnbmobinaaTextsBack
import Derived.Test.YtienlhnbmobinaaOpIn
import Derived.Test.YtienlhnbmobinaaOpLaw
import Derived.Test.YtienlhnbmobinaaOpEnc
import Derived.Test.YtienlhnbmobinaaOpPlain
import Derived.Test.YtienlhnbmobinaaOpPart
import Derived.Test.YtienlhnbmobinaaTextsMove
import Derived.Test.YtienlhnbmobinaaTextsP
import Derived.Test.YtienlhnbmobinaaPlains
import Derived.Test.YtienlhnbmobinaaBase
import Derived.Test.YtienlhnbmobinaaNodeWeigh
import Derived.Deep.CutBlock
import Derived.Deep.RegionHeld
import Derived.WalkKit
import Derived.WalkLawsBesides
import Derived.WalkSpells
import Derived.LoopTactic
import Derived.WalkMore
import Derived.LoopN
import Derived.Laws.BitsAllLaws
import Derived.Laws.IdiomStrings
import Derived.BigQuiet
import Derived.Deep.QuietTactic
import Derived.Deep.DeepCutAuto
import Derived.Deep.RegionHeld3
import Derived.Deep.DrawnRows
import Derived.Lib.Hide
import Derived.Outline
import Derived.Deep.DeepMust
import Derived.Handy
namespace Go.Proofs.Ytienlhnbmobinaa
open Go.RowKit
set_option linter.unusedVariables false
set_option linter.unusedSimpArgs false

theorem step_store_pg {ops : Array Oper} {o : Oper} {a : Act} {w : World} {K : Act → World → Prop} {Q : Exit → Act → World → Prop} {E : Prop} (hgd : o.guard = none) (x y : Operand) (ho : o.op = .store 26 x y)
    {g kind level id lsn next : Nat} {sv : Value} (h : PgBox w g kind level id lsn next sv) (kind' level' id' lsn' next' : Nat) (b : Option Addr) (n c : Nat)
    (hx : a.eval x = .pointer (some ⟨g, 0, none⟩)) (hy : a.eval y = .agg #[.int .u8 kind', .int .u8 level', .int .u32 id', .int .u64 lsn', .int .u32 next', .slice b n c])
    (hk : ∀ W, PgBox W g kind' level' id' lsn' next' (.slice b n c) → OthersKept w W (fun x => x = g) → K (a.put o.dst undef) W) :
    if Region.wanted o (yielded ops a.tmps) = true then Oper.wp Try.prog o a w K Q else E := by
  rw [if_pos (by simp [Region.wanted, hgd])]
  exact wp_store_row 26 x y ho g _ hx hy 26 _ h (by kernel_rfl) rfl (by simp [Value.oneCell']) (hk _ (setRow_pg h kind' level' id' lsn' next' (.slice b n c)) (setRow_kept _ _ _))
set_option maxHeartbeats 4000000 in
set_option maxRecDepth 100000 in
theorem refRedo_any (p : Pg) (sv v : Value) (lsn : Nat) (L : List Ov) (w : World) (ht : TextsAt w sv p.rows) (hp : p.wf) (hl : lsn < 256 ^ 8) (hb : weightB p.rows ≤ 1000000) (hL : OpsAt w v L) (hw : ∀ e ∈ L, e.o.wf) (hs : ∀ e ∈ L, e.o.small) :
    Calls Try.prog 22 #[pgV p sv, .int .u64 lsn, v] w (PgPost w (redoB p lsn (L.map Ov.o))) := by
  have HT := Lib.hid fun W (hB : Below w.heap.size w W) => ht.below hB
  obtain ⟨R, hR⟩ : ∃ R, R = redoB p lsn (L.map Ov.o) := ⟨_, rfl⟩
  rw [← hR]
  have HR := Lib.hid hR
  have HP := Lib.hid hp
  have HW := Lib.hid hw
  have HS := Lib.hid hs
  obtain ⟨A, cp, rfl, hcp⟩ := ht
  have HCP := Lib.hid hcp
  obtain ⟨VA, vcp, rfl, h2, h3, h4, h5⟩ := hL
  obtain ⟨n, hn⟩ : ∃ n, n = L.length := ⟨_, rfl⟩
  rw [← hn] at h2 ⊢
  unfold maxLen at h3
  have H4 := Lib.hid h4
  have H5 := Lib.hid h5
  have HN := Lib.hid hn
  obtain ⟨pn, hpn⟩ : ∃ k, k = p.rows.length := ⟨_, rfl⟩
  rw [← hpn] at HT ⊢
  have HPN := Lib.hid hpn
  clear hR hp hw hs h4 h5 hn hpn hcp
  unfold pgV
  obtain ⟨W1, hW1⟩ : ∃ W, W = w.alloc (.cells #[.int .u8 p.kind, .int .u8 p.level, .int .u32 p.id, .int .u64 p.lsn, .int .u32 p.next, .slice A pn cp] 26) := ⟨_, rfl⟩
  obtain ⟨W2, hW2⟩ : ∃ W, W = W1.alloc (.cells #[.int .u8 0, .int .u8 0, .int .u32 0, .int .u64 0, .int .u32 0, .slice none 0 0] 26) := ⟨_, rfl⟩
  have hz1 : W1.heap.size = w.heap.size + 1 := by rw [hW1]; simp
  have hz2 : W2.heap.size = w.heap.size + 1 + 1 := by rw [hW2]; simp [hz1]
  have b1 : Below w.heap.size w W1 := by rw [hW1]; exact alloc_below _ _
  have b2 : Below W1.heap.size W1 W2 := by rw [hW2]; exact alloc_below _ _
  have B2 := Lib.hid (below_then b1 b2)
  have P2 : PgBox W2 w.heap.size p.kind p.level p.id p.lsn p.next (.slice A pn cp) := by
    have h : PgBox W1 w.heap.size p.kind p.level p.id p.lsn p.next (.slice A pn cp) := by rw [hW1]; exact PgBox.new _ _ _ _ _ _ _
    exact h.below b2
  have R2 : PgBox W2 (w.heap.size + 1) 0 0 0 0 0 (.slice none 0 0) := by rw [hW2, ← hz1]; exact PgBox.new _ _ _ _ _ _ _
  go_enter Try.func22, Try.ntmps22
  clear b1 b2
  go_upto_region 1 with fail
  rw [← hW1, ← hW2]
  have HZ2 := Lib.hid hz2
  clear hW1 hW2 hz1 hz2 W1
  obtain ⟨_, p0, p1, p2, p3, p4, p5⟩ := P2.cells
  have P2 := Lib.hid P2
  have R2 := Lib.hid R2
  by_cases hc : lsn ≤ p.lsn
  · have hci : (lsn : Int) ≤ (p.lsn : Int) := by omega
    have HX : Hid (R = (p, 0)) := by show _ = _; rw [HR.out]; unfold redoB; rw [if_pos hc]
    obtain ⟨_, y0, y1, y2, y3, y4, y5⟩ := R2.out.cells
    obtain ⟨f0, f1, f2, f3, f4, f5⟩ := R2.out.fr
    clear HR hc
    go_wp2_with fail
    have XB := Lib.hid (R2.out.put p.kind p.level p.id p.lsn p.next (.slice A pn cp))
    have XKK := Lib.hid (setPg_kept W2 (w.heap.size + 1) p.kind p.level p.id p.lsn p.next (.slice A pn cp))
    have XK := Lib.hid (OthersKept.below B2.out XKK.out (fun k hk e => by omega))
    refine bodyPost_ret (v := .tuple #[.agg #[.int .u8 p.kind, .int .u8 p.level, .int .u32 p.id, .int .u64 p.lsn, .int .u32 p.next, .slice A pn cp], .int .i64 0]) (results_pg (p := 6) (u := 7) (by kernel_rfl) _ _ rfl XB.out) rfl ?_
    refine ⟨.slice A pn cp, by rw [HX.out]; rfl, ?_, XK.out⟩
    rw [HX.out]
    exact HT.out _ XK.out
  · have hci : ¬ (lsn : Int) ≤ (p.lsn : Int) := by omega
    have HX : Hid (R = redoGo p lsn (L.map Ov.o) p) := by show _ = _; rw [HR.out]; unfold redoB; rw [if_neg hc]
    have Q3 : PgBox (W2.alloc (.cells #[.int .u8 p.kind, .int .u8 p.level, .int .u32 p.id, .int .u64 p.lsn, .int .u32 p.next, .slice A pn cp] 26)) (w.heap.size + 1 + 1) p.kind p.level p.id p.lsn p.next (.slice A pn cp) := by rw [← HZ2.out]; exact PgBox.new _ _ _ _ _ _ _
    have B3 := Lib.hid (B2.out.alloc B2.out.size (.cells #[.int .u8 p.kind, .int .u8 p.level, .int .u32 p.id, .int .u64 p.lsn, .int .u32 p.next, .slice A pn cp] 26))
    have A3 := Lib.hid (alloc_below W2 (.cells #[.int .u8 p.kind, .int .u8 p.level, .int .u32 p.id, .int .u64 p.lsn, .int .u32 p.next, .slice A pn cp] 26))
    have P3 := Lib.hid (P2.out.below A3.out)
    have R3 := Lib.hid (R2.out.below A3.out)
    have HQ3 := Lib.hid Q3
    have hzz : W2.heap.size = w.heap.size + 1 + 1 := HZ2.out
    clear HR hc Q3 P2 R2
    go_upto_region 4 with fail
    generalize W2.alloc (.cells #[.int .u8 p.kind, .int .u8 p.level, .int .u32 p.id, .int .u64 p.lsn, .int .u32 p.next, .slice A pn cp] 26) = W3 at *
    have HL0 : Hid (R = redoGo p lsn ((L.map Ov.o).drop 0) p) := HX.out
    have hq0 : Hid (pn = p.rows.length ∧ p.wf ∧ weightB p.rows ≤ 1000000) := Lib.hid ⟨HPN.out, HP.out, hb⟩
    have HT3 := Lib.hid (HT.out W3 B3.out)
    clear HX HZ2 A3 B2 p0 p1 p2 p3 p4 p5 hci hzz
    go_wp2_with fail
    go_loopw [9] (fun s9 wr => ∃ (i : Nat) (q : Pg) (qa : Option Addr) (qn qc : Nat), s9 = .int .i64 i ∧ i ≤ n ∧ Hid (qn = q.rows.length ∧ q.wf ∧ weightB q.rows ≤ 1000000) ∧ Hid (TextsAt wr (.slice qa qn qc) q.rows) ∧ Hid (PgBox wr (w.heap.size + 1 + 1) q.kind q.level q.id q.lsn q.next (.slice qa qn qc)) ∧ Hid (PgBox wr w.heap.size p.kind p.level p.id p.lsn p.next (.slice A pn cp)) ∧ Hid (PgBox wr (w.heap.size + 1) 0 0 0 0 0 (.slice none 0 0)) ∧ Hid (Below w.heap.size w wr) ∧ Hid (R = redoGo p lsn ((L.map Ov.o).drop i) q)) (fun v _ => n - (intOf v).toNat)
    case atStart => exact ⟨0, p, A, pn, cp, rfl, Nat.zero_le _, hq0, HT3, HQ3, P3, R3, B3, HL0⟩
    case round =>
      obtain ⟨i, q, qa, qn, qc, rfl, hi, HQ, HTQ, HQB, HPB, HRB, HB, HGO⟩ := hrel
      clear P3 R3 B3 HQ3 HT3 HL0 hq0
      by_cases hc2 : i < n
      · have hci : (i : Int) < (n : Int) := by omega
        have q1 : (0 : Int) ≤ (i : Int) := by omega
        have hil : i < L.length := by rw [← HN.out]; exact hc2
        have hdrop : (L.map Ov.o).drop i = L[i].o :: (L.map Ov.o).drop (i + 1) := by
          rw [List.drop_eq_getElem_cons (by simpa using hil)]
          simp
        obtain ⟨b0, o0, rfl, hb0, hcell⟩ := H4.out (by rw [← HN.out]; omega)
        have hte := H5.out L[i] (List.getElem_mem hil)
        have hx := hcell i hil
        have hwe := HW.out L[i] (List.getElem_mem hil)
        have hse := HS.out L[i] (List.getElem_mem hil)
        have hgo := HGO.out
        rw [hdrop] at hgo
        clear hcell hdrop HGO
        generalize L[i] = e at *
        obtain ⟨x0, x1, x2, x3, x4, x5, x6, x7, x8⟩ := ov_cells (w := wr) (b := b0) (o := o0 + i * 9) (e := e) (fun j v hv => (HB.out.cell (p := ⟨b0, o0 + i * 9 + j, none⟩) hb0).trans (hx j v hv))
        have hte2 := hte.below HB.out
        clear hx hte
        obtain ⟨⟨ok, page, oat, ooff, text, orows, pk, lv, nx⟩, eb, ec⟩ := e
        simp only [Ov.sv] at *
        obtain ⟨rl, hrl⟩ : ∃ k, k = orows.length := ⟨_, rfl⟩
        rw [← hrl] at x5 hte2
        have AP := Lib.hid fun W (h1 : TextsAt W (.slice qa qn qc) q.rows) (h2 : TextsAt W (.slice eb rl ec) orows) => refApply_any q ⟨ok, page, oat, ooff, text, orows, pk, lv, nx⟩ (.slice qa qn qc) (.slice eb rl ec) lsn W h1 h2 HQ.out.2.1 hwe hse hl HQ.out.2.2 (by have := weightB_eq q.rows; have := HQ.out.2.2; omega)
        have AOK := Lib.hid fun h => applyB_ok (p := q) (o := ⟨ok, page, oat, ooff, text, orows, pk, lv, nx⟩) (lsn := lsn) HQ.out.2.1 hwe hl h
        unfold pgV odV at AP
        have HGO := Lib.hid hgo
        have HTE := Lib.hid hte2
        clear hgo hte2 hwe hse hrl
        obtain ⟨_, p0, p1, p2, p3, p4, p5⟩ := HPB.out.cells
        obtain ⟨hzQ, y0, y1, y2, y3, y4, y5⟩ := HQB.out.cells
        have hzR := HRB.out.lt
        by_cases hpg : page = p.id
        · have hpi : ((page : Int) != (p.id : Int)) = false := by simp; omega
          have hgo2 := HGO.out
          rw [redoGo, if_pos hpg] at hgo2
          obtain ⟨D, hD⟩ : ∃ D, D = applyB q ⟨ok, page, oat, ooff, text, orows, pk, lv, nx⟩ lsn := ⟨_, rfl⟩
          rw [← hD] at AP AOK hgo2
          have HGO2 := Lib.hid hgo2
          clear hgo2 HGO hD hpg
          obtain ⟨D, err⟩ := D
          simp only at AOK HGO2 AP
          go_wp2_with fail
          go_quiet (fail)
          have BN : Below wr.heap.size wr (wr.drewN nq) := ⟨rfl, rfl, rfl, Nat.le_refl _, fun _ _ => rfl⟩
          generalize wr.drewN nq = wn at *
          replace x0 := keep_cell BN x0
          replace x1 := keep_cell BN x1
          replace x2 := keep_cell BN x2
          replace x3 := keep_cell BN x3
          replace x4 := keep_cell BN x4
          replace x5 := keep_cell BN x5
          replace x6 := keep_cell BN x6
          replace x7 := keep_cell BN x7
          replace x8 := keep_cell BN x8
          replace y0 := keep_cell BN y0
          replace y1 := keep_cell BN y1
          replace y2 := keep_cell BN y2
          replace y3 := keep_cell BN y3
          replace y4 := keep_cell BN y4
          replace y5 := keep_cell BN y5
          replace p0 := keep_cell BN p0
          replace p1 := keep_cell BN p1
          replace p2 := keep_cell BN p2
          replace p3 := keep_cell BN p3
          replace p4 := keep_cell BN p4
          replace p5 := keep_cell BN p5
          replace HTQ := Lib.hid (HTQ.out.below BN)
          replace HTE := Lib.hid (HTE.out.below BN)
          replace HPB := Lib.hid (HPB.out.below BN)
          replace HQB := Lib.hid (HQB.out.below BN)
          replace HRB := Lib.hid (HRB.out.below BN)
          replace HB := Lib.hid (below_then HB.out BN)
          have hzn : wr.heap.size ≤ wn.heap.size := BN.size
          clear BN
          go_upto_region 8 with fail
          have hb0w : b0 < wn.heap.size := cell_lt x0
          have KS := Lib.hid fun W W' (hb : Below W.heap.size W W') (h : W.cell? ⟨w.heap.size + 1 + 1, 0, none⟩ = some (.int .u8 q.kind) ∧ W.cell? ⟨w.heap.size + 1 + 1, 1, none⟩ = some (.int .u8 q.level) ∧ W.cell? ⟨w.heap.size + 1 + 1, 2, none⟩ = some (.int .u32 q.id) ∧ W.cell? ⟨w.heap.size + 1 + 1, 3, none⟩ = some (.int .u64 q.lsn) ∧ W.cell? ⟨w.heap.size + 1 + 1, 4, none⟩ = some (.int .u32 q.next) ∧ W.cell? ⟨w.heap.size + 1 + 1, 5, none⟩ = some (.slice qa qn qc) ∧ W.cell? ⟨b0, o0 + i * 9, none⟩ = some (.int .u8 ok) ∧ W.cell? ⟨b0, o0 + i * 9 + 1, none⟩ = some (.int .u32 page) ∧ W.cell? ⟨b0, o0 + i * 9 + 2, none⟩ = some (.int .i64 oat) ∧ W.cell? ⟨b0, o0 + i * 9 + 3, none⟩ = some (.int .i64 ooff) ∧ W.cell? ⟨b0, o0 + i * 9 + 4, none⟩ = some (.string ⟨text.toArray⟩) ∧ W.cell? ⟨b0, o0 + i * 9 + 5, none⟩ = some (.slice eb rl ec) ∧ W.cell? ⟨b0, o0 + i * 9 + 6, none⟩ = some (.int .u8 pk) ∧ W.cell? ⟨b0, o0 + i * 9 + 7, none⟩ = some (.int .u8 lv) ∧ W.cell? ⟨b0, o0 + i * 9 + 8, none⟩ = some (.int .u32 nx)) => (⟨keep_cell hb h.1, keep_cell hb h.2.1, keep_cell hb h.2.2.1, keep_cell hb h.2.2.2.1, keep_cell hb h.2.2.2.2.1, keep_cell hb h.2.2.2.2.2.1, keep_cell hb h.2.2.2.2.2.2.1, keep_cell hb h.2.2.2.2.2.2.2.1, keep_cell hb h.2.2.2.2.2.2.2.2.1, keep_cell hb h.2.2.2.2.2.2.2.2.2.1, keep_cell hb h.2.2.2.2.2.2.2.2.2.2.1, keep_cell hb h.2.2.2.2.2.2.2.2.2.2.2.1, keep_cell hb h.2.2.2.2.2.2.2.2.2.2.2.2.1, keep_cell hb h.2.2.2.2.2.2.2.2.2.2.2.2.2.1, keep_cell hb h.2.2.2.2.2.2.2.2.2.2.2.2.2.2⟩ : W'.cell? ⟨w.heap.size + 1 + 1, 0, none⟩ = some (.int .u8 q.kind) ∧ W'.cell? ⟨w.heap.size + 1 + 1, 1, none⟩ = some (.int .u8 q.level) ∧ W'.cell? ⟨w.heap.size + 1 + 1, 2, none⟩ = some (.int .u32 q.id) ∧ W'.cell? ⟨w.heap.size + 1 + 1, 3, none⟩ = some (.int .u64 q.lsn) ∧ W'.cell? ⟨w.heap.size + 1 + 1, 4, none⟩ = some (.int .u32 q.next) ∧ W'.cell? ⟨w.heap.size + 1 + 1, 5, none⟩ = some (.slice qa qn qc) ∧ W'.cell? ⟨b0, o0 + i * 9, none⟩ = some (.int .u8 ok) ∧ W'.cell? ⟨b0, o0 + i * 9 + 1, none⟩ = some (.int .u32 page) ∧ W'.cell? ⟨b0, o0 + i * 9 + 2, none⟩ = some (.int .i64 oat) ∧ W'.cell? ⟨b0, o0 + i * 9 + 3, none⟩ = some (.int .i64 ooff) ∧ W'.cell? ⟨b0, o0 + i * 9 + 4, none⟩ = some (.string ⟨text.toArray⟩) ∧ W'.cell? ⟨b0, o0 + i * 9 + 5, none⟩ = some (.slice eb rl ec) ∧ W'.cell? ⟨b0, o0 + i * 9 + 6, none⟩ = some (.int .u8 pk) ∧ W'.cell? ⟨b0, o0 + i * 9 + 7, none⟩ = some (.int .u8 lv) ∧ W'.cell? ⟨b0, o0 + i * 9 + 8, none⟩ = some (.int .u32 nx))
          have KO := Lib.hid fun W W' g (hb : OthersKept W W' (fun x => x = g)) (hg : wn.heap.size ≤ g) (h : W.cell? ⟨w.heap.size + 1 + 1, 0, none⟩ = some (.int .u8 q.kind) ∧ W.cell? ⟨w.heap.size + 1 + 1, 1, none⟩ = some (.int .u8 q.level) ∧ W.cell? ⟨w.heap.size + 1 + 1, 2, none⟩ = some (.int .u32 q.id) ∧ W.cell? ⟨w.heap.size + 1 + 1, 3, none⟩ = some (.int .u64 q.lsn) ∧ W.cell? ⟨w.heap.size + 1 + 1, 4, none⟩ = some (.int .u32 q.next) ∧ W.cell? ⟨w.heap.size + 1 + 1, 5, none⟩ = some (.slice qa qn qc) ∧ W.cell? ⟨b0, o0 + i * 9, none⟩ = some (.int .u8 ok) ∧ W.cell? ⟨b0, o0 + i * 9 + 1, none⟩ = some (.int .u32 page) ∧ W.cell? ⟨b0, o0 + i * 9 + 2, none⟩ = some (.int .i64 oat) ∧ W.cell? ⟨b0, o0 + i * 9 + 3, none⟩ = some (.int .i64 ooff) ∧ W.cell? ⟨b0, o0 + i * 9 + 4, none⟩ = some (.string ⟨text.toArray⟩) ∧ W.cell? ⟨b0, o0 + i * 9 + 5, none⟩ = some (.slice eb rl ec) ∧ W.cell? ⟨b0, o0 + i * 9 + 6, none⟩ = some (.int .u8 pk) ∧ W.cell? ⟨b0, o0 + i * 9 + 7, none⟩ = some (.int .u8 lv) ∧ W.cell? ⟨b0, o0 + i * 9 + 8, none⟩ = some (.int .u32 nx)) => (⟨hb.cell h.1 (fun e => absurd (show w.heap.size + 1 + 1 = g from e) (by omega)), hb.cell h.2.1 (fun e => absurd (show w.heap.size + 1 + 1 = g from e) (by omega)), hb.cell h.2.2.1 (fun e => absurd (show w.heap.size + 1 + 1 = g from e) (by omega)), hb.cell h.2.2.2.1 (fun e => absurd (show w.heap.size + 1 + 1 = g from e) (by omega)), hb.cell h.2.2.2.2.1 (fun e => absurd (show w.heap.size + 1 + 1 = g from e) (by omega)), hb.cell h.2.2.2.2.2.1 (fun e => absurd (show w.heap.size + 1 + 1 = g from e) (by omega)), hb.cell h.2.2.2.2.2.2.1 (fun e => absurd (show b0 = g from e) (by omega)), hb.cell h.2.2.2.2.2.2.2.1 (fun e => absurd (show b0 = g from e) (by omega)), hb.cell h.2.2.2.2.2.2.2.2.1 (fun e => absurd (show b0 = g from e) (by omega)), hb.cell h.2.2.2.2.2.2.2.2.2.1 (fun e => absurd (show b0 = g from e) (by omega)), hb.cell h.2.2.2.2.2.2.2.2.2.2.1 (fun e => absurd (show b0 = g from e) (by omega)), hb.cell h.2.2.2.2.2.2.2.2.2.2.2.1 (fun e => absurd (show b0 = g from e) (by omega)), hb.cell h.2.2.2.2.2.2.2.2.2.2.2.2.1 (fun e => absurd (show b0 = g from e) (by omega)), hb.cell h.2.2.2.2.2.2.2.2.2.2.2.2.2.1 (fun e => absurd (show b0 = g from e) (by omega)), hb.cell h.2.2.2.2.2.2.2.2.2.2.2.2.2.2 (fun e => absurd (show b0 = g from e) (by omega))⟩ : W'.cell? ⟨w.heap.size + 1 + 1, 0, none⟩ = some (.int .u8 q.kind) ∧ W'.cell? ⟨w.heap.size + 1 + 1, 1, none⟩ = some (.int .u8 q.level) ∧ W'.cell? ⟨w.heap.size + 1 + 1, 2, none⟩ = some (.int .u32 q.id) ∧ W'.cell? ⟨w.heap.size + 1 + 1, 3, none⟩ = some (.int .u64 q.lsn) ∧ W'.cell? ⟨w.heap.size + 1 + 1, 4, none⟩ = some (.int .u32 q.next) ∧ W'.cell? ⟨w.heap.size + 1 + 1, 5, none⟩ = some (.slice qa qn qc) ∧ W'.cell? ⟨b0, o0 + i * 9, none⟩ = some (.int .u8 ok) ∧ W'.cell? ⟨b0, o0 + i * 9 + 1, none⟩ = some (.int .u32 page) ∧ W'.cell? ⟨b0, o0 + i * 9 + 2, none⟩ = some (.int .i64 oat) ∧ W'.cell? ⟨b0, o0 + i * 9 + 3, none⟩ = some (.int .i64 ooff) ∧ W'.cell? ⟨b0, o0 + i * 9 + 4, none⟩ = some (.string ⟨text.toArray⟩) ∧ W'.cell? ⟨b0, o0 + i * 9 + 5, none⟩ = some (.slice eb rl ec) ∧ W'.cell? ⟨b0, o0 + i * 9 + 6, none⟩ = some (.int .u8 pk) ∧ W'.cell? ⟨b0, o0 + i * 9 + 7, none⟩ = some (.int .u8 lv) ∧ W'.cell? ⟨b0, o0 + i * 9 + 8, none⟩ = some (.int .u32 nx))
          go_cut [10, 11] (fun s10 s11 w' => ∃ (g : Nat) (da : Option Addr) (dn dc : Nat), s10 = .pointer (some ⟨g, 0, none⟩) ∧ s11 = .int .i64 err ∧ Hid (PgBox w' g D.kind D.level D.id D.lsn D.next (.slice da dn dc)) ∧ Hid (dn = D.rows.length) ∧ Hid (TextsAt w' (.slice da dn dc) D.rows) ∧ wn.heap.size ≤ g ∧ Hid (Below wn.heap.size wn w'))
          case first =>
            clear HGO2 AOK
            refine wp_region_held_drew (S := fun W => W.cell? ⟨w.heap.size + 1 + 1, 0, none⟩ = some (.int .u8 q.kind) ∧ W.cell? ⟨w.heap.size + 1 + 1, 1, none⟩ = some (.int .u8 q.level) ∧ W.cell? ⟨w.heap.size + 1 + 1, 2, none⟩ = some (.int .u32 q.id) ∧ W.cell? ⟨w.heap.size + 1 + 1, 3, none⟩ = some (.int .u64 q.lsn) ∧ W.cell? ⟨w.heap.size + 1 + 1, 4, none⟩ = some (.int .u32 q.next) ∧ W.cell? ⟨w.heap.size + 1 + 1, 5, none⟩ = some (.slice qa qn qc) ∧ W.cell? ⟨b0, o0 + i * 9, none⟩ = some (.int .u8 ok) ∧ W.cell? ⟨b0, o0 + i * 9 + 1, none⟩ = some (.int .u32 page) ∧ W.cell? ⟨b0, o0 + i * 9 + 2, none⟩ = some (.int .i64 oat) ∧ W.cell? ⟨b0, o0 + i * 9 + 3, none⟩ = some (.int .i64 ooff) ∧ W.cell? ⟨b0, o0 + i * 9 + 4, none⟩ = some (.string ⟨text.toArray⟩) ∧ W.cell? ⟨b0, o0 + i * 9 + 5, none⟩ = some (.slice eb rl ec) ∧ W.cell? ⟨b0, o0 + i * 9 + 6, none⟩ = some (.int .u8 pk) ∧ W.cell? ⟨b0, o0 + i * 9 + 7, none⟩ = some (.int .u8 lv) ∧ W.cell? ⟨b0, o0 + i * 9 + 8, none⟩ = some (.int .u32 nx)) (by kernel_rfl) (KS.out _ _ ((Below.refl _ _).drew) ⟨y0, y1, y2, y3, y4, y5, x0, x1, x2, x3, x4, x5, x6, x7, x8⟩) (fun hHeld => ?_)
            refine wpAnyH_take (i := 0) (oi := { dst := some 33, op := Go.Op.load 26 (Go.Operand.tmp 8), type := 26, pos := "ref.go:252", after := #[], guard := none }) (v := ?_) rfl (by kernel_rfl) (by kernel_rfl) (by kernel_rfl) (fun _ _ _ h => h) (Or.inl ⟨by rfl, ?_⟩) hHeld ?_
            rotate_left
            · (intro w hSw; go_simp <;> with_reducible rfl)
            simp only [Act.put, List.setIfInBounds_toArray, List.set_cons_zero, List.set_cons_succ]
            refine wpAnyH_take (i := 1) (oi := { dst := some 34, op := Go.Op.move (Go.Operand.tmp 2), type := 29, pos := "ref.go:252", after := #[], guard := none }) (v := ?_) rfl (by kernel_rfl) (by kernel_rfl) (by kernel_rfl) (fun _ _ _ h => h) (Or.inl ⟨by rfl, ?_⟩) hHeld ?_
            rotate_left
            · (intro w hSw; go_simp <;> with_reducible rfl)
            simp only [Act.put, List.setIfInBounds_toArray, List.set_cons_zero, List.set_cons_succ]
            refine wpAnyH_take (i := 2) (oi := { dst := some 35, op := Go.Op.move (Go.Operand.tmp 9), type := 3, pos := "ref.go:252", after := #[], guard := none }) (v := ?_) rfl (by kernel_rfl) (by kernel_rfl) (by kernel_rfl) (fun _ _ _ h => h) (Or.inl ⟨by rfl, ?_⟩) hHeld ?_
            rotate_left
            · (intro w hSw; go_simp <;> with_reducible rfl)
            simp only [Act.put, List.setIfInBounds_toArray, List.set_cons_zero, List.set_cons_succ]
            refine wpAnyH_take (i := 3) (oi := { dst := some 36, op := Go.Op.indexAddr 29 (Go.Operand.tmp 34) (Go.Operand.tmp 35), type := 0, pos := "ref.go:252", after := #[{ on := 1, ground := Go.Ground.data }, { on := 2, ground := Go.Ground.data }], guard := none }) (v := ?_) rfl (by kernel_rfl) (by kernel_rfl) (by kernel_rfl) (fun _ _ _ h => h) (Or.inl ⟨by rfl, ?_⟩) hHeld ?_
            rotate_left
            · (intro w hSw; go_simp <;> with_reducible rfl)
            simp only [Act.put, List.setIfInBounds_toArray, List.set_cons_zero, List.set_cons_succ]
            refine wpAnyH_take (i := 4) (oi := { dst := some 37, op := Go.Op.load 28 (Go.Operand.tmp 36), type := 28, pos := "ref.go:252", after := #[{ on := 3, ground := Go.Ground.data }], guard := none }) (v := ?_) rfl (by kernel_rfl) (by kernel_rfl) (by kernel_rfl) (fun _ _ _ h => h) (Or.inl ⟨by rfl, ?_⟩) hHeld ?_
            rotate_left
            · (intro w hSw; go_simp <;> with_reducible rfl)
            simp only [Act.put, List.setIfInBounds_toArray, List.set_cons_zero, List.set_cons_succ]
            refine wpAnyH_take (i := 5) (oi := { dst := some 38, op := Go.Op.move (Go.Operand.tmp 1), type := 23, pos := "ref.go:252", after := #[], guard := none }) (v := ?_) rfl (by kernel_rfl) (by kernel_rfl) (by kernel_rfl) (fun _ _ _ h => h) (Or.inl ⟨by rfl, ?_⟩) hHeld ?_
            rotate_left
            · (intro w hSw; go_simp <;> with_reducible rfl)
            simp only [Act.put, List.setIfInBounds_toArray, List.set_cons_zero, List.set_cons_succ]
            refine wpAnyH_ready (rs := [6, 10]) (by kernel_rfl) (by simp) (AllReadyH.cons (o := { dst := some 39, op := Go.Op.call { callee := Go.Callee.value (Go.Operand.func 20), args := #[Go.Operand.tmp 33, Go.Operand.tmp 37, Go.Operand.tmp 38], argTypes := #[26, 28, 23] }, type := 37, pos := "ref.go:252", after := #[{ on := 0, ground := Go.Ground.data }, { on := 4, ground := Go.Ground.data }, { on := 5, ground := Go.Ground.data }], guard := none }) rfl (fun K hK => ?_) (AllReadyH.cons (o := { dst := some 10, op := Go.Op.alloc 26, type := 0, pos := "ref.go:252", after := #[], guard := none }) rfl (fun K hK => ?_) AllReadyH.nil))
            · go_simp
              have hbw : Below wn.heap.size wn wn.drew := ((Below.refl _ _).drew)
              refine (AP.out wn.drew (HTQ.out.below hbw) (HTE.out.below hbw)).mono ?_
              rintro e w6 ⟨sv', rfl, ht6, hbw6⟩
              simp only at ht6
              have T6 := Lib.hid ht6
              obtain ⟨da, dc, rfl, _⟩ := ht6
              obtain ⟨dn, hdn⟩ : ∃ k, k = D.rows.length := ⟨_, rfl⟩
              rw [← hdn] at T6 ⊢
              have HDN := Lib.hid hdn
              unfold pgV
              have hb6 := Lib.hid (below_then hbw hbw6)
              have hS6 := Lib.hid (KS.out _ _ hbw6 hHeld)
              have h56 : wn.heap.size ≤ w6.heap.size := hb6.out.size
              clear hbw6 hdn hbw
              (try simp only)
              refine hK.out _ _ ?_ (fun hHeld => ?_)
              · exact hS6.out
              clear hK K
              (try simp only [Act.put, List.setIfInBounds_toArray, List.set_cons_zero, List.set_cons_succ])
              refine wpAnyH_take (i := 7) (oi := { dst := some 32, op := Go.Op.move (Go.Operand.tmp 39), type := 37, pos := "ref.go:252", after := #[{ on := 6, ground := Go.Ground.data }], guard := none }) (v := ?_) rfl (by kernel_rfl) (by kernel_rfl) (by kernel_rfl) (fun _ _ _ h => h) (Or.inl ⟨by rfl, ?_⟩) hHeld ?_
              rotate_left
              · (intro w hSw; go_simp <;> with_reducible rfl)
              simp only [Act.put, List.setIfInBounds_toArray, List.set_cons_zero, List.set_cons_succ]
              refine wpAnyH_take (i := 8) (oi := { dst := some 40, op := Go.Op.extract (Go.Operand.tmp 32) 0, type := 26, pos := "ref.go:252", after := #[{ on := 7, ground := Go.Ground.data }], guard := none }) (v := ?_) rfl (by kernel_rfl) (by kernel_rfl) (by kernel_rfl) (fun _ _ _ h => h) (Or.inl ⟨by rfl, ?_⟩) hHeld ?_
              rotate_left
              · (intro w hSw; go_simp <;> with_reducible rfl)
              simp only [Act.put, List.setIfInBounds_toArray, List.set_cons_zero, List.set_cons_succ]
              refine wpAnyH_take (i := 9) (oi := { dst := some 41, op := Go.Op.extract (Go.Operand.tmp 32) 1, type := 3, pos := "ref.go:252", after := #[{ on := 7, ground := Go.Ground.data }, { on := 11, ground := Go.Ground.gcOnly Go.Departure.lateStores }], guard := none }) (v := ?_) rfl (by kernel_rfl) (by kernel_rfl) (by kernel_rfl) (fun _ _ _ h => h) (Or.inl ⟨by rfl, ?_⟩) hHeld ?_
              rotate_left
              · (intro w hSw; go_simp <;> with_reducible rfl)
              simp only [Act.put, List.setIfInBounds_toArray, List.set_cons_zero, List.set_cons_succ]
              refine wpAnyH_ready (rs := [10]) (by kernel_rfl) (by simp) (AllReadyH.cons (o := { dst := some 10, op := Go.Op.alloc 26, type := 0, pos := "ref.go:252", after := #[], guard := none }) rfl (fun K hK => ?_) AllReadyH.nil)
              · go_simp
                refine hK.out _ _ ?_ (fun hHeld => ?_)
                · exact KS.out _ _ (alloc_below _ _) hHeld
                clear hK K
                (try simp only [Act.put, List.setIfInBounds_toArray, List.set_cons_zero, List.set_cons_succ])
                refine wpAnyH_ready (rs := [11]) (by kernel_rfl) (by simp) (AllReadyH.cons (o := { dst := none, op := Go.Op.store 26 (Go.Operand.tmp 10) (Go.Operand.tmp 40), type := 0, pos := "ref.go:252", after := #[{ on := 10, ground := Go.Ground.data }, { on := 8, ground := Go.Ground.data }, { on := 6, ground := Go.Ground.chain }, { on := 0, ground := Go.Ground.phase }, { on := 1, ground := Go.Ground.phase }, { on := 2, ground := Go.Ground.phase }, { on := 3, ground := Go.Ground.phase }, { on := 4, ground := Go.Ground.phase }, { on := 5, ground := Go.Ground.phase }, { on := 6, ground := Go.Ground.phase }, { on := 7, ground := Go.Ground.phase }, { on := 8, ground := Go.Ground.phase }, { on := 9, ground := Go.Ground.textOnly Go.Departure.lateStores }, { on := 10, ground := Go.Ground.phase }], guard := none }) rfl (fun K hK => ?_) AllReadyH.nil)
                · have Z6 := Lib.hid (PgBox.new w6 0 0 0 0 0 (.slice none 0 0))
                  refine step_store_pg rfl (.tmp 10) (.tmp 40) rfl Z6.out D.kind D.level D.id D.lsn D.next da dn dc (by rfl) (by rfl) ?_
                  intro wD hPD hKD
                  have hPD := Lib.hid hPD
                  have hKD := Lib.hid hKD
                  refine hK.out _ _ ?_ (fun hHeld => ?_)
                  · exact KO.out _ _ w6.heap.size hKD.out h56 hHeld
                  clear hK K
                  (try simp only [Act.put, List.setIfInBounds_toArray, List.set_cons_zero, List.set_cons_succ])
                  refine wpAnyH_take (i := 12) (oi := { dst := some 11, op := Go.Op.assign (Go.Operand.tmp 41), type := 3, pos := "ref.go:252", after := #[{ on := 9, ground := Go.Ground.data }, { on := 11, ground := Go.Ground.chain }, { on := 0, ground := Go.Ground.phase }, { on := 1, ground := Go.Ground.phase }, { on := 2, ground := Go.Ground.phase }, { on := 3, ground := Go.Ground.phase }, { on := 4, ground := Go.Ground.phase }, { on := 5, ground := Go.Ground.phase }, { on := 6, ground := Go.Ground.phase }, { on := 7, ground := Go.Ground.phase }, { on := 8, ground := Go.Ground.phase }, { on := 9, ground := Go.Ground.phase }, { on := 10, ground := Go.Ground.phase }, { on := 11, ground := Go.Ground.phase }], guard := none }) (v := ?_) rfl (by kernel_rfl) (by kernel_rfl) (by kernel_rfl) (fun _ _ _ h => h) (Or.inl ⟨by rfl, ?_⟩) hHeld ?_
                  rotate_left
                  · (intro w hSw; go_simp <;> with_reducible rfl)
                  simp only [Act.put, List.setIfInBounds_toArray, List.set_cons_zero, List.set_cons_succ]
                  refine wpAnyH_done (by kernel_rfl) ?_ _
                  go_wp2_with fail
                  go_meet
                  exact ⟨w6.heap.size, da, dn, dc, rfl, rfl, hPD, HDN, Lib.hid (texts_page Z6.out (T6.out.below (alloc_below w6 _)) hKD.out (fun h x e => by cases e)), h56, Lib.hid (OthersKept.below (below_then hb6.out (alloc_below w6 _)) hKD.out (fun k hk e => by omega))⟩
            · go_simp
              refine hK.out _ _ ?_ (fun hHeld => ?_)
              · exact KS.out _ _ (alloc_below _ _) hHeld
              clear hK K
              (try simp only [Act.put, List.setIfInBounds_toArray, List.set_cons_zero, List.set_cons_succ])
              refine wpAnyH_ready (rs := [6]) (by kernel_rfl) (by simp) (AllReadyH.cons (o := { dst := some 39, op := Go.Op.call { callee := Go.Callee.value (Go.Operand.func 20), args := #[Go.Operand.tmp 33, Go.Operand.tmp 37, Go.Operand.tmp 38], argTypes := #[26, 28, 23] }, type := 37, pos := "ref.go:252", after := #[{ on := 0, ground := Go.Ground.data }, { on := 4, ground := Go.Ground.data }, { on := 5, ground := Go.Ground.data }], guard := none }) rfl (fun K hK => ?_) AllReadyH.nil)
              · go_simp
                have hbw : Below wn.heap.size wn (wn.drew.alloc (.cells #[.int .u8 0, .int .u8 0, .int .u32 0, .int .u64 0, .int .u32 0, .slice none 0 0] 26)) := (((Below.refl _ _).drew).alloc (Nat.le_refl _) _)
                refine (AP.out (wn.drew.alloc (.cells #[.int .u8 0, .int .u8 0, .int .u32 0, .int .u64 0, .int .u32 0, .slice none 0 0] 26)) (HTQ.out.below hbw) (HTE.out.below hbw)).mono ?_
                rintro e w6 ⟨sv', rfl, ht6, hbw6⟩
                simp only at ht6
                have T6 := Lib.hid ht6
                obtain ⟨da, dc, rfl, _⟩ := ht6
                obtain ⟨dn, hdn⟩ : ∃ k, k = D.rows.length := ⟨_, rfl⟩
                rw [← hdn] at T6 ⊢
                have HDN := Lib.hid hdn
                unfold pgV
                have Z6 : PgBox w6 wn.heap.size 0 0 0 0 0 (.slice none 0 0) := PgBox.below (PgBox.new wn.drew 0 0 0 0 0 (.slice none 0 0)) hbw6
                have Z6 := Lib.hid Z6
                have hb6 := Lib.hid (below_then hbw hbw6)
                have hS6 := Lib.hid (KS.out _ _ hbw6 hHeld)
                have h56 : wn.heap.size ≤ w6.heap.size := hb6.out.size
                clear hbw6 hdn hbw
                (try simp only)
                refine hK.out _ _ ?_ (fun hHeld => ?_)
                · exact hS6.out
                clear hK K
                (try simp only [Act.put, List.setIfInBounds_toArray, List.set_cons_zero, List.set_cons_succ])
                refine wpAnyH_take (i := 7) (oi := { dst := some 32, op := Go.Op.move (Go.Operand.tmp 39), type := 37, pos := "ref.go:252", after := #[{ on := 6, ground := Go.Ground.data }], guard := none }) (v := ?_) rfl (by kernel_rfl) (by kernel_rfl) (by kernel_rfl) (fun _ _ _ h => h) (Or.inl ⟨by rfl, ?_⟩) hHeld ?_
                rotate_left
                · (intro w hSw; go_simp <;> with_reducible rfl)
                simp only [Act.put, List.setIfInBounds_toArray, List.set_cons_zero, List.set_cons_succ]
                refine wpAnyH_take (i := 8) (oi := { dst := some 40, op := Go.Op.extract (Go.Operand.tmp 32) 0, type := 26, pos := "ref.go:252", after := #[{ on := 7, ground := Go.Ground.data }], guard := none }) (v := ?_) rfl (by kernel_rfl) (by kernel_rfl) (by kernel_rfl) (fun _ _ _ h => h) (Or.inl ⟨by rfl, ?_⟩) hHeld ?_
                rotate_left
                · (intro w hSw; go_simp <;> with_reducible rfl)
                simp only [Act.put, List.setIfInBounds_toArray, List.set_cons_zero, List.set_cons_succ]
                refine wpAnyH_take (i := 9) (oi := { dst := some 41, op := Go.Op.extract (Go.Operand.tmp 32) 1, type := 3, pos := "ref.go:252", after := #[{ on := 7, ground := Go.Ground.data }, { on := 11, ground := Go.Ground.gcOnly Go.Departure.lateStores }], guard := none }) (v := ?_) rfl (by kernel_rfl) (by kernel_rfl) (by kernel_rfl) (fun _ _ _ h => h) (Or.inl ⟨by rfl, ?_⟩) hHeld ?_
                rotate_left
                · (intro w hSw; go_simp <;> with_reducible rfl)
                simp only [Act.put, List.setIfInBounds_toArray, List.set_cons_zero, List.set_cons_succ]
                refine wpAnyH_ready (rs := [11]) (by kernel_rfl) (by simp) (AllReadyH.cons (o := { dst := none, op := Go.Op.store 26 (Go.Operand.tmp 10) (Go.Operand.tmp 40), type := 0, pos := "ref.go:252", after := #[{ on := 10, ground := Go.Ground.data }, { on := 8, ground := Go.Ground.data }, { on := 6, ground := Go.Ground.chain }, { on := 0, ground := Go.Ground.phase }, { on := 1, ground := Go.Ground.phase }, { on := 2, ground := Go.Ground.phase }, { on := 3, ground := Go.Ground.phase }, { on := 4, ground := Go.Ground.phase }, { on := 5, ground := Go.Ground.phase }, { on := 6, ground := Go.Ground.phase }, { on := 7, ground := Go.Ground.phase }, { on := 8, ground := Go.Ground.phase }, { on := 9, ground := Go.Ground.textOnly Go.Departure.lateStores }, { on := 10, ground := Go.Ground.phase }], guard := none }) rfl (fun K hK => ?_) AllReadyH.nil)
                · refine step_store_pg rfl (.tmp 10) (.tmp 40) rfl Z6.out D.kind D.level D.id D.lsn D.next da dn dc (by rfl) (by rfl) ?_
                  intro wD hPD hKD
                  have hPD := Lib.hid hPD
                  have hKD := Lib.hid hKD
                  refine hK.out _ _ ?_ (fun hHeld => ?_)
                  · exact KO.out _ _ wn.heap.size hKD.out (Nat.le_refl _) hHeld
                  clear hK K
                  (try simp only [Act.put, List.setIfInBounds_toArray, List.set_cons_zero, List.set_cons_succ])
                  refine wpAnyH_take (i := 12) (oi := { dst := some 11, op := Go.Op.assign (Go.Operand.tmp 41), type := 3, pos := "ref.go:252", after := #[{ on := 9, ground := Go.Ground.data }, { on := 11, ground := Go.Ground.chain }, { on := 0, ground := Go.Ground.phase }, { on := 1, ground := Go.Ground.phase }, { on := 2, ground := Go.Ground.phase }, { on := 3, ground := Go.Ground.phase }, { on := 4, ground := Go.Ground.phase }, { on := 5, ground := Go.Ground.phase }, { on := 6, ground := Go.Ground.phase }, { on := 7, ground := Go.Ground.phase }, { on := 8, ground := Go.Ground.phase }, { on := 9, ground := Go.Ground.phase }, { on := 10, ground := Go.Ground.phase }, { on := 11, ground := Go.Ground.phase }], guard := none }) (v := ?_) rfl (by kernel_rfl) (by kernel_rfl) (by kernel_rfl) (fun _ _ _ h => h) (Or.inl ⟨by rfl, ?_⟩) hHeld ?_
                  rotate_left
                  · (intro w hSw; go_simp <;> with_reducible rfl)
                  simp only [Act.put, List.setIfInBounds_toArray, List.set_cons_zero, List.set_cons_succ]
                  refine wpAnyH_done (by kernel_rfl) ?_ _
                  go_wp2_with fail
                  go_meet
                  exact ⟨wn.heap.size, da, dn, dc, rfl, rfl, hPD, HDN, Lib.hid (texts_page Z6.out T6.out hKD.out (fun h x e => by cases e)), Nat.le_refl _, Lib.hid (OthersKept.below hb6.out hKD.out (fun k hk e => by omega))⟩
          case rest =>
          obtain ⟨g, da, dn, dc, rfl, rfl, HXB, HDN, T6, hg, HBW⟩ := hcut
          have P6 := Lib.hid (HPB.out.below HBW.out)
          have R6 := Lib.hid (HRB.out.below HBW.out)
          have Q6 := Lib.hid (HQB.out.below HBW.out)
          have B6 := Lib.hid (below_then HB.out HBW.out)
          have hsz6 : wn.heap.size ≤ wc.heap.size := HBW.out.size
          clear KS KO x0 x1 x2 x3 x4 x5 x6 x7 x8 y0 y1 y2 y3 y4 y5 p0 p1 p2 p3 p4 p5 AP HTE HTQ
          by_cases her : err = 0
          · subst her
            have e0 : ((0 : Int) != 0) = false := rfl
            have HN2 : Hid (R = redoGo p lsn ((L.map Ov.o).drop (i + 1)) D) := by show _ = _; rw [HGO2.out, if_pos rfl]
            have HOK2 : Hid (dn = D.rows.length ∧ D.wf ∧ weightB D.rows ≤ 1000000) := by
              obtain ⟨h1, h2, _⟩ := AOK.out rfl
              have h3 := (may_weight h2).1
              exact ⟨HDN.out, h1, by omega⟩
            obtain ⟨_, z0, z1, z2, z3, z4, z5⟩ := HXB.out.cells
            clear HGO2 AOK HDN
            go_wp2_with (refine wpList_store_pg rfl (.tmp 8) (.tmp 46) rfl Q6.out D.kind D.level D.id D.lsn D.next da dn dc (by rfl) (by rfl) ?_; intro wD hPD hKD; have Q7 := Lib.hid hPD; have HK7 := Lib.hid hKD; clear hPD hKD)
            have P7 := Lib.hid (P6.out.kept HK7.out (by omega))
            have R7 := Lib.hid (R6.out.kept HK7.out (by omega))
            have B7 := Lib.hid (OthersKept.below B6.out HK7.out (fun k hk e => by omega))
            have T7 := Lib.hid (texts_page Q6.out T6.out HK7.out (fun h x e => by cases e))
            exact ⟨⟨i + 1, D, da, dn, dc, by go_num, by omega, HOK2, T7, Q7, P7, R7, B7, HN2⟩, by simp [intOf] <;> omega⟩
          · have hei : (err != 0) = true := by simp; omega
            have HX2 : Hid (R = (p, err)) := by show _ = _; rw [HGO2.out, if_neg her]
            obtain ⟨_, z0, z1, z2, z3, z4, z5⟩ := R6.out.cells
            obtain ⟨f0, f1, f2, f3, f4, f5⟩ := R6.out.fr
            obtain ⟨_, p0, p1, p2, p3, p4, p5⟩ := P6.out.cells
            clear HGO2 AOK her HDN
            go_wp2_with fail
            have XB := Lib.hid (R6.out.put p.kind p.level p.id p.lsn p.next (.slice A pn cp))
            have XKK := Lib.hid (setPg_kept wc (w.heap.size + 1) p.kind p.level p.id p.lsn p.next (.slice A pn cp))
            have XK := Lib.hid (OthersKept.below B6.out XKK.out (fun k hk e => by omega))
            refine bodyPost_ret (v := .tuple #[.agg #[.int .u8 p.kind, .int .u8 p.level, .int .u32 p.id, .int .u64 p.lsn, .int .u32 p.next, .slice A pn cp], .int .i64 err]) (results_pg (p := 6) (u := 7) (by kernel_rfl) _ _ rfl XB.out) rfl ?_
            refine ⟨.slice A pn cp, by rw [HX2.out]; rfl, ?_, XK.out⟩
            rw [HX2.out]
            exact HT.out _ XK.out
        · have hpi : ((page : Int) != (p.id : Int)) = true := by simp; omega
          have HN2 : Hid (R = redoGo p lsn ((L.map Ov.o).drop (i + 1)) q) := by show _ = _; rw [HGO.out, redoGo, if_neg hpg]
          clear HGO AP AOK hpg
          go_wp2_with fail
          go_quiet (fail)
          have BN : Below wr.heap.size wr (wr.drewN nq) := ⟨rfl, rfl, rfl, Nat.le_refl _, fun _ _ => rfl⟩
          generalize wr.drewN nq = wn at *
          replace x0 := keep_cell BN x0
          replace x1 := keep_cell BN x1
          replace x2 := keep_cell BN x2
          replace x3 := keep_cell BN x3
          replace x4 := keep_cell BN x4
          replace x5 := keep_cell BN x5
          replace x6 := keep_cell BN x6
          replace x7 := keep_cell BN x7
          replace x8 := keep_cell BN x8
          replace y0 := keep_cell BN y0
          replace y1 := keep_cell BN y1
          replace y2 := keep_cell BN y2
          replace y3 := keep_cell BN y3
          replace y4 := keep_cell BN y4
          replace y5 := keep_cell BN y5
          replace p0 := keep_cell BN p0
          replace p1 := keep_cell BN p1
          replace p2 := keep_cell BN p2
          replace p3 := keep_cell BN p3
          replace p4 := keep_cell BN p4
          replace p5 := keep_cell BN p5
          replace HTQ := Lib.hid (HTQ.out.below BN)
          replace HTE := Lib.hid (HTE.out.below BN)
          replace HPB := Lib.hid (HPB.out.below BN)
          replace HQB := Lib.hid (HQB.out.below BN)
          replace HRB := Lib.hid (HRB.out.below BN)
          replace HB := Lib.hid (below_then HB.out BN)
          have hzn : wr.heap.size ≤ wn.heap.size := BN.size
          clear BN
          go_wp2_with fail
          exact ⟨⟨i + 1, q, qa, qn, qc, by go_num, by omega, HQ, HTQ, HQB, HPB, HRB, HB, HN2⟩, by simp [intOf] <;> omega⟩
      · have hci : ¬ (i : Int) < (n : Int) := by omega
        have hnil : (L.map Ov.o).drop i = [] := by
          rw [List.drop_eq_nil_iff, List.length_map, ← HN.out]
          omega
        have HX2 : Hid (R = (q, 0)) := by show _ = _; rw [HGO.out, hnil, redoGo]
        have hzR := HRB.out.lt
        obtain ⟨_, y0, y1, y2, y3, y4, y5⟩ := HQB.out.cells
        obtain ⟨_, z0, z1, z2, z3, z4, z5⟩ := HRB.out.cells
        obtain ⟨f0, f1, f2, f3, f4, f5⟩ := HRB.out.fr
        clear HGO hnil
        go_wp2_with fail
        have XB := Lib.hid (HRB.out.put q.kind q.level q.id q.lsn q.next (.slice qa qn qc))
        have XKK := Lib.hid (setPg_kept wr (w.heap.size + 1) q.kind q.level q.id q.lsn q.next (.slice qa qn qc))
        have XK := Lib.hid (OthersKept.below HB.out XKK.out (fun k hk e => by omega))
        refine bodyPost_ret (v := .tuple #[.agg #[.int .u8 q.kind, .int .u8 q.level, .int .u32 q.id, .int .u64 q.lsn, .int .u32 q.next, .slice qa qn qc], .int .i64 0]) (results_pg (p := 6) (u := 7) (by kernel_rfl) _ _ rfl XB.out) rfl ?_
        refine ⟨.slice qa qn qc, by rw [HX2.out]; rfl, ?_, XK.out⟩
        rw [HX2.out]
        exact texts_page HRB.out HTQ.out XKK.out (fun h x e => by cases e)

end Go.Proofs.Ytienlhnbmobinaa
