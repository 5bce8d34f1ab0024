/- Kept of our texts for this claim: SegWork AddBox UndoOut UndosIn -/
import Derived.Test.YtienlhnbmobinaaGreatRows
import Derived.Test.YtienlhnbmobinaaGreatAdAt
import Derived.Test.YtienlhnbmobinaaGreatAdAz
import Derived.Test.YtienlhnbmobinaaGreatAdBa
import Derived.Test.YtienlhnbmobinaaGreatAdBb
import Derived.Test.YtienlhnbmobinaaGreatAdAu
import Derived.Test.YtienlhnbmobinaaGreatAdAs
import Derived.Test.YtienlhnbmobinaaGreatAdAa
import Derived.Test.YtienlhnbmobinaaGreatAdAc
import Derived.Test.YtienlhnbmobinaaGreatAdAk
import Derived.Test.YtienlhnbmobinaaGreatAdAb
import Derived.Test.YtienlhnbmobinaaGreatAdAr
import Derived.WalkKit
import Derived.WalkLawsBesides
import Derived.WalkSpells
import Derived.LoopTactic
import Derived.WalkMore
import Derived.LoopN
import Derived.Laws.BitsAllLaws
import Derived.Laws.IdiomStrings
import Derived.BigQuiet
import Derived.Deep.QuietTactic
import Derived.Deep.DeepCutAuto
import Derived.Deep.RegionHeld3
import Derived.Deep.DrawnRows
import Derived.Lib.Hide
import Derived.Outline
import Derived.Deep.DeepMust
import Derived.Handy
import Derived.Test.YtienlhnbmobinaaGreatAdAq
import Derived.Test.YtienlhnbmobinaaGreatAdAl
import Derived.Deep.CutBlock
import Derived.Test.YtienlhnbmobinaaGreatAdAy
import Derived.Test.YtienlhnbmobinaaGreatAdAw
import Derived.Test.YtienlhnbmobinaaGreatAdAm
import Derived.Deep.LoopGhost
import Derived.Test.YtienlhnbmobinaaGreatAdAh
import Derived.Test.YtienlhnbmobinaaGreatAdAi
import Derived.Test.YtienlhnbmobinaaGreatAdAj
import Derived.Deep.OwnRows
section
/- chapter 22: Head, copied, SameOp of an op and itself; what works shows -/
namespace Go.Proofs.YtienlhnbmobinaaGreat
open Go.RowKit
set_option linter.unusedVariables false
set_option linter.unusedSimpArgs false
theorem PgBox.zero (w : World) : PgBox (w.alloc (.cells #[.int .u8 0, .int .u8 0, .int .u32 0, .int .u64 0, .int .u32 0, .slice none 0 0] 26)) w.heap.size 0 0 0 0 0 (.slice none 0 0) := PgBox.new w 0 0 0 0 0 (.slice none 0 0)
theorem TextsAt.off_pg {w w' : World} {g kind level id lsn next : Nat} {sv v : Value} {ts : List (List UInt8)} (h : TextsAt w v ts) (hp : PgBox w g kind level id lsn next sv) (hs : ∀ s, sv ≠ .string s) (hk : OthersKept w w' (fun k => k = g)) : TextsAt w' v ts := by
  obtain ⟨A, cp, h1, h2, h3, h4, h5⟩ := h
  refine ⟨A, cp, h1, h2, h3, h4, fun h0 => ?_⟩
  obtain ⟨b, o, h6, h7, h8⟩ := h5 h0
  have hne : b ≠ g := by
    intro e
    subst e
    have h9 := h8 0 h0
    rw [blk_cell hp] at h9
    have h10 : o + 0 < 6 := by
      have := (Array.getElem?_eq_some_iff.1 h9).1
      simpa using this
    obtain rfl | rfl | rfl | rfl | rfl | rfl : o = 0 ∨ o = 1 ∨ o = 2 ∨ o = 3 ∨ o = 4 ∨ o = 5 := by omega
    all_goals first
      | (simp at h9; done)
      | (simp at h9; exact hs _ h9)
  exact ⟨b, o, h6, Nat.lt_of_lt_of_le h7 hk.size, fun j hj => hk.cell (h8 j hj) hne⟩
theorem results_pg1 {fn : Func} {p : Tmp} (h : fn.results = #[.cell p 26]) (tmps : Array Value) (w : World) {g kind level id lsn next : Nat} {sv : Value} (hp : tmps.getD p undef = .pointer (some ⟨g, 0, none⟩)) (hb : PgBox w g kind level id lsn next sv) :
    (results fn tmps).run Tryz.prog w = .ok (.agg #[.int .u8 kind, .int .u8 level, .int .u32 id, .int .u64 lsn, .int .u32 next, sv]) w := by
  unfold PgBox at hb
  have hp2 : tmps[p]?.getD undef = .pointer (some ⟨g, 0, none⟩) := by simpa using hp
  simp [results, h, hp2, asAddr, run_loadVar_row w g 26 26 _ (0, 0) _ hb Tryz.underlying26 rfl (by kernel_rfl), Result.andThen]
set_option maxHeartbeats 2000000 in
set_option maxRecDepth 100000 in
theorem copied22_any (p : Pg) (sv : Value) (w : World) (ht : TextsAt w sv p.rows) (hn9 : p.rows.length ≤ 1000000) :
    Calls Tryz.prog 9 #[pgV p sv] w fun e w' => ∃ sv', e = .returned (pgV p sv') ∧ TextsAt w' sv' p.rows ∧ Below w.heap.size w w' := by
  have HT := Lib.hid ht
  obtain ⟨n, hn⟩ : ∃ n, n = p.rows.length := ⟨_, rfl⟩
  obtain ⟨A, cp, hsv, h2, h3, h4, h5⟩ := ht
  rw [← hn] at hsv h2 hn9
  subst hsv
  unfold maxLen at h3
  have HN := Lib.hid hn
  clear h4 h5 hn
  obtain ⟨kind, level, id, lsn, next, rows⟩ := p
  simp only at HT HN
  obtain ⟨i0, hif, hz0, hz1, hz2⟩ := info_parts Tryz.infoStrM
  have HI := Lib.hid hif
  have HI0 := Lib.hid hz0
  have HI1 := Lib.hid hz1
  have HI2 := Lib.hid hz2
  clear hif hz0 hz1 hz2
  have b0 := alloc_below w (.cells #[.int .u8 kind, .int .u8 level, .int .u32 id, .int .u64 lsn, .int .u32 next, .slice A n cp] 26)
  have P0 := Lib.hid ((PgBox.new w kind level id lsn next (.slice A n cp)).keep (.cells #[.int .u8 0, .int .u8 0, .int .u32 0, .int .u64 0, .int .u32 0, .slice none 0 0] 26))
  have b1 := alloc_below (w.alloc (.cells #[.int .u8 kind, .int .u8 level, .int .u32 id, .int .u64 lsn, .int .u32 next, .slice A n cp] 26)) (.cells #[.int .u8 0, .int .u8 0, .int .u32 0, .int .u64 0, .int .u32 0, .slice none 0 0] 26)
  have B0 := Lib.hid (below_then b0 b1)
  have Z0 := Lib.hid (PgBox.zero (w.alloc (.cells #[.int .u8 kind, .int .u8 level, .int .u32 id, .int .u64 lsn, .int .u32 next, .slice A n cp] 26)))
  have hz1 : (w.alloc (.cells #[.int .u8 kind, .int .u8 level, .int .u32 id, .int .u64 lsn, .int .u32 next, .slice A n cp] 26)).heap.size = w.heap.size + 1 := by simp
  rw [hz1] at Z0
  have T0 := Lib.hid (HT.out.below B0.out)
  unfold pgV
  simp only
  clear b0 b1 hz1 HT
  go_enter Tryz.func9, Tryz.ntmps9
  go_upto_region 1 with fail
  generalize (w.alloc (.cells #[.int .u8 kind, .int .u8 level, .int .u32 id, .int .u64 lsn, .int .u32 next, .slice A n cp] 26)).alloc (.cells #[.int .u8 0, .int .u8 0, .int .u32 0, .int .u64 0, .int .u32 0, .slice none 0 0] 26) = w0 at *
  obtain ⟨x0, x1, x2, x3, x4, x5, x6⟩ := P0.out.cells
  have hz : w.heap.size + 1 < w0.heap.size := Z0.out.lt
  have TR := Lib.hid T0.out.reads
  rw [← HN.out] at TR
  go_upto_region 2 with (at_builtin; refine wpList_append_any _ rfl _ _ 24 rfl w0.heap.size 9 i0 (.string ⟨#[]⟩) 1 16 Tryz.underlying24 HI.out HI0.out HI1.out HI2.out rfl (by decide) (.slice none 0 0) 0 [] (by rfl) (World.ownsRow_nil _ _ _ _) (.slice A n cp) n (strs rows) (by rfl) TR.out (strs_oneCell _) (by unfold maxLen; omega) (by omega) (Nat.le_refl _) ?_; intro v7 w7 hown7 hgrow7; simp only [Nat.zero_add, List.nil_append] at hown7; obtain ⟨rb, rc, hv7, _, hrc, _⟩ := own_form hown7; subst hv7; have HO := Lib.hid hown7; have PG := Lib.hid (P0.out.grown hgrow7 (by simp [Value.ownBlock])); have ZG := Lib.hid (Z0.out.grown hgrow7 (by simp [Value.ownBlock])); have BG := Lib.hid (B0.out.grown hgrow7 (by omega) (fun j hj => by cases hj)); clear hown7 hgrow7 x0 x1 x2 x3 x4 x5 x6; obtain ⟨x0, x1, x2, x3, x4, x5, x6⟩ := PG.out.cells; obtain ⟨f0, f1, f2, f3, f4, f5⟩ := PG.out.fr)
  have hk := one_kept w7 w.heap.size 5 (.slice rb n rc)
  have P8 := Lib.hid (PG.out.set5 (.slice rb n rc))
  have Z8 := Lib.hid (ZG.out.kept hk (by omega))
  have T8 := Lib.hid (TextsAt.off_pg (texts_own HO.out).1 PG.out (fun x e => by cases e) hk)
  have B8 := Lib.hid (OthersKept.below BG.out hk (fun k hk e => by omega))
  generalize w7.setCell ⟨w.heap.size, 5, none⟩ (.slice rb n rc) = w8 at *
  clear x0 x1 x2 x3 x4 x5 x6 f0 f1 f2 f3 f4 f5 hk PG ZG BG HO
  obtain ⟨x0, x1, x2, x3, x4, x5, x6⟩ := P8.out.cells
  go_wp2_with (refine wpList_store_pg rfl (.tmp 2) (.tmp 7) rfl Z8.out kind level id lsn next rb n rc (by rfl) (by rfl) ?_; intro wSg hP hK; have PS := Lib.hid hP; have KS := Lib.hid hK; clear hP hK)
  refine bodyPost_ret (results_pg1 (p := 2) (by kernel_rfl) _ _ rfl PS.out) rfl ?_
  exact ⟨_, rfl, TextsAt.off_pg T8.out Z8.out (fun x e => by cases e) KS.out, OthersKept.below B8.out KS.out (fun k hk e => by omega)⟩
set_option maxHeartbeats 4000000 in
set_option maxRecDepth 100000 in
theorem sameOp_any (a : Od) (w : World) : Calls Tryz.prog 13 #[.agg #[.int .u8 a.kind, .int .u32 a.page, .int .i64 a.at_, .int .i64 a.off, .string ⟨a.text.toArray⟩, .slice none 0 0, .int .u8 a.pk, .int .u8 a.lv, .int .u32 a.nx], .agg #[.int .u8 a.kind, .int .u32 a.page, .int .i64 a.at_, .int .i64 a.off, .string ⟨a.text.toArray⟩, .slice none 0 0, .int .u8 a.pk, .int .u8 a.lv, .int .u32 a.nx]] w fun e w' => e = .returned (.bool true) ∧ Below w.heap.size w w' := by
  obtain ⟨kind, page, at_, off, text, rows, pk, lv, nx⟩ := a
  simp only
  have OA := Lib.hid (OAt.new w ⟨kind, page, at_, off, text, rows, pk, lv, nx⟩ (.slice none 0 0))
  have b0 := alloc_below w (.cells #[.int .u8 kind, .int .u32 page, .int .i64 at_, .int .i64 off, .string ⟨text.toArray⟩, .slice none 0 0, .int .u8 pk, .int .u8 lv, .int .u32 nx] 40)
  have OB := Lib.hid (OAt.new (w.alloc (.cells #[.int .u8 kind, .int .u32 page, .int .i64 at_, .int .i64 off, .string ⟨text.toArray⟩, .slice none 0 0, .int .u8 pk, .int .u8 lv, .int .u32 nx] 40)) ⟨kind, page, at_, off, text, rows, pk, lv, nx⟩ (.slice none 0 0))
  have OA2 := Lib.hid (OA.out.keep (.cells #[.int .u8 kind, .int .u32 page, .int .i64 at_, .int .i64 off, .string ⟨text.toArray⟩, .slice none 0 0, .int .u8 pk, .int .u8 lv, .int .u32 nx] 40))
  have B0 := Lib.hid (b0.alloc b0.size (.cells #[.int .u8 kind, .int .u32 page, .int .i64 at_, .int .i64 off, .string ⟨text.toArray⟩, .slice none 0 0, .int .u8 pk, .int .u8 lv, .int .u32 nx] 40))
  rw [World.size_alloc] at OB
  simp only at OB OA2
  have e0 : ((kind : Int) == (kind : Int)) = true := by simp
  have e1 : ((page : Int) == (page : Int)) = true := by simp
  have e2 : (at_ == at_) = true := by simp
  have e3 : (off == off) = true := by simp
  have e4 : (text == text) = true := by simp
  have e5 : ((pk : Int) == (pk : Int)) = true := by simp
  have e6 : ((lv : Int) == (lv : Int)) = true := by simp
  have e7 : ((nx : Int) == (nx : Int)) = true := by simp
  clear b0 OA
  go_enter Tryz.func13, Tryz.ntmps13
  go_upto_region 1 with fail
  generalize (w.alloc (.cells #[.int .u8 kind, .int .u32 page, .int .i64 at_, .int .i64 off, .string ⟨text.toArray⟩, .slice none 0 0, .int .u8 pk, .int .u8 lv, .int .u32 nx] 40)).alloc (.cells #[.int .u8 kind, .int .u32 page, .int .i64 at_, .int .i64 off, .string ⟨text.toArray⟩, .slice none 0 0, .int .u8 pk, .int .u8 lv, .int .u32 nx] 40) = w0 at *
  obtain ⟨x0, x1, x2, x3, x4, x5, x6, x7, x8⟩ := OA2.out.cells
  obtain ⟨y0, y1, y2, y3, y4, y5, y6, y7, y8⟩ := OB.out.cells
  simp only at x0 x1 x2 x3 x4 x5 x6 x7 x8 y0 y1 y2 y3 y4 y5 y6 y7 y8
  go_wp2_with fail
  go_loopw [5] (fun s5 wr => s5 = .int .i64 0 ∧ wr = w0) (fun _ _ => 0)
  case atStart => exact ⟨rfl, rfl⟩
  case round =>
    obtain ⟨rfl, rfl⟩ := hrel
    go_wp2_with fail
    go_ret
    exact ⟨rfl, B0.out⟩
theorem eqSegSelf (s : Sg) (w : World) : (binOp .eql 52 (.agg #[.int .u64 s.tx, .int .u8 s.st, .int .u64 s.num, .int .u32 s.fp, .int .u32 s.lp, .int .u32 s.hp, .int .u16 s.hs]) (.agg #[.int .u64 s.tx, .int .u8 s.st, .int .u64 s.num, .int .u32 s.fp, .int .u32 s.lp, .int .u32 s.hp, .int .u16 s.hs])).run Tryz.prog w = .ok (.bool true) w := by
  simp [go_sem]
theorem head22_any (id : Nat) (w : World) : Calls Tryz.prog 14 #[.int .u32 id] w fun e w' => e = .returned (pgV ⟨5, 0, id, 0, 0, []⟩ (.slice none 0 0)) ∧ Below w.heap.size w w' := by
  have P0 := Lib.hid (PgBox.new w 0 0 0 0 0 (.slice none 0 0))
  have B0 := Lib.hid (alloc_below w (.cells #[.int .u8 (0 : Nat), .int .u8 (0 : Nat), .int .u32 (0 : Nat), .int .u64 (0 : Nat), .int .u32 (0 : Nat), .slice none 0 0] 26))
  go_enter Tryz.func14, Tryz.ntmps14
  go_upto_region 1 with fail
  have hw0 : ∃ w0, w0 = w.alloc (.cells #[.int .u8 0, .int .u8 0, .int .u32 0, .int .u64 0, .int .u32 0, .slice none 0 0] 26) := ⟨_, rfl⟩
  obtain ⟨w0, hw0⟩ := hw0
  have P1 : Hid (PgBox w0 w.heap.size 0 0 0 0 0 (.slice none 0 0)) := by rw [hw0]; exact P0.out
  have B1 : Hid (Below w.heap.size w w0) := by rw [hw0]; exact B0.out
  rw [← hw0]
  clear hw0 P0 B0
  go_wp2_with (refine wpList_store_pg rfl (.tmp 2) (.tmp 4) rfl P1.out 5 0 id 0 0 none 0 0 (by rfl) (by rfl) ?_; intro wSg hP hK; have PF := Lib.hid hP; have KF := Lib.hid hK; clear hP hK)
  have hres := results_pg1 (fn := Tryz.f14) (p := 2) (by kernel_rfl)
  refine bodyPost_ret (hres _ _ rfl PF.out) rfl ⟨rfl, OthersKept.below B1.out KF.out (fun k hk e => by omega)⟩
def wSg : Sg := ⟨7, 1, 0, 9, 9, 9, 0⟩
def wP0 : Pg := ⟨5, 0, 3, 0, 0, []⟩
theorem SegP.fits {p : Pg} {L : List Sg} (h : SegP p L) : p.wf ∧ weightB p.rows ≤ 1000 ∧ p.rows.length ≤ 13 := by
  refine ⟨h.1, ?_, ?_⟩
  · rw [h.2.2.2.1, weight_enc]
    have := h.2.2.2.2.2.2
    omega
  · rw [h.2.2.2.1, List.length_map]
    exact h.2.2.2.2.2.2
theorem works_law : ∃ o q c r, sPutB wP0 wSg = (o, 0) ∧ (o.wf ∧ o.small ∧ o.rows = []) ∧ applyB wP0 o 1 = (q, 0) ∧ (q.wf ∧ weightB q.rows ≤ 1000 ∧ q.rows.length ≤ 13) ∧ sFindB q 7 = (wSg, true) ∧ sCommitB q 7 4 = (c, 0) ∧ (c.wf ∧ c.small ∧ c.rows = []) ∧ applyB q c 2 = (r, 0) ∧ (r.wf ∧ weightB r.rows ≤ 1000 ∧ r.rows.length ≤ 13) ∧ allB 2 [r, wP0] = [wSg.done 4] ∧ allB 1 [q] = [wSg] ∧ sDropB wP0 7 = (Od.zero, 3) := by
  have h0 : SegP wP0 [] := head_seg 3 (by decide) (by decide)
  have hm : wSg.may = true := by decide
  have hw : wSg.wf := by unfold wSg Sg.wf; decide
  have hmd : (wSg.done 4).may = true := by decide
  have hwd : (wSg.done 4).wf := by unfold wSg Sg.done Sg.wf; decide
  obtain ⟨e1, e2⟩ := apply_put (s := wSg) (lsn := 1) h0 (by decide) hm hw rfl (by decide)
  have hL1 : segWith [] wSg = [wSg] := rfl
  rw [hL1] at e1 e2
  obtain ⟨e3, e4⟩ := apply_set (s := wSg.done 4) (lsn := 2) e2 (by decide) hmd hwd rfl
  have hL2 : segWith [wSg] (wSg.done 4) = [wSg.done 4] := rfl
  rw [hL2] at e3 e4
  refine ⟨_, _, _, _, ?_, ⟨?_, ?_, ?_⟩, e1, e2.fits, ?_, ?_, ⟨?_, ?_, ?_⟩, e3, e4.fits, ?_, ?_, ?_⟩
  · unfold sPutB sPutO
    rw [h0.to]
    simp only
    rw [if_pos hm]
    rfl
  · exact od_wf (by decide) (by decide) (by decide)
  · exact od_small (by rw [sg_len]; decide)
  · rfl
  · unfold sFindB
    rw [e2.to]
    rfl
  · unfold sCommitB
    rw [e2.to]
    rfl
  · exact od_wf (by decide) (by decide) (by decide)
  · exact od_small (by rw [sg_len]; decide)
  · rfl
  · unfold allB
    simp only [List.flatMap_cons, List.flatMap_nil]
    rw [e4.to, h0.to]
    rfl
  · unfold allB
    simp only [List.flatMap_cons, List.flatMap_nil]
    rw [e2.to]
    rfl
  · unfold sDropB
    rw [h0.to]
    rfl
theorem of22_any (tx : Nat) (w : World) (h : tx < 256 ^ 8) : Calls Tryz.prog 22 #[.int .u64 tx] w fun e w' => e = .returned (.int .i64 ((tx % 4 : Nat) : Int)) ∧ w = w' := by
  have hx : (tx : Int) % 4 = ((tx % 4 : Nat) : Int) := by omega
  have h4 := Nat.mod_lt tx (show 4 > 0 by omega)
  obtain ⟨r, hr⟩ : ∃ r, r = tx % 4 := ⟨_, rfl⟩
  rw [← hr] at hx h4 ⊢
  clear hr
  go_enter Tryz.func22, Tryz.ntmps22
  go_wp2_with fail
  go_ret
  exact ⟨by first | rfl | (rw [← hx]; rfl) | (simp [hx]), rfl⟩
end Go.Proofs.YtienlhnbmobinaaGreat
end

section
/- records, places and what Add and Get answer -/
namespace Go.Proofs.YtienlhnbmobinaaGreat
open Go.RowKit
set_option linter.unusedVariables false
set_option linter.unusedSimpArgs false
/-- An undo record as data. -/
structure Ud where
  kd : Nat
  x : Nat
  pg : Nat
  sl : Nat
  y : ByteArray
  k : ByteArray
  m : Bool
  t : Nat
  p : Nat
  s : Nat
  v : ByteArray
  d : Int
def Ud.zero : Ud := ⟨0, 0, 0, 0, ⟨#[]⟩, ⟨#[]⟩, false, 0, 0, 0, ⟨#[]⟩, 0⟩
def udV (u : Ud) : Value := .agg #[.int .u8 u.kd, .int .u64 u.x, .int .u32 u.pg, .int .u16 u.sl, .string u.y, .string u.k, .bool u.m, .int .u64 u.t, .int .u32 u.p, .int .u16 u.s, .string u.v, .int .i64 u.d]
def uOf (l : List UInt8) : Ud := ⟨rdNum l 0 1, rdNum l 1 8, rdNum l 9 4, rdNum l 13 2, uK l, wK l, wM l, wT l, wP l, wS l, wV l, wD l⟩
/-- What bytes are read as. -/
def decB (l : List UInt8) : Ud × Int := if decUOk l then (uOf l, 0) else (Ud.zero, 7)
theorem decUV_B (l : List UInt8) : decUV l = .tuple #[udV (decB l).1, .int .i64 (decB l).2] := by
  unfold decUV decB
  split <;> rfl
theorem decB_no {l : List UInt8} (h : decUOk l = false) : decB l = (Ud.zero, 7) := by
  unfold decB
  rw [h]
  rfl
theorem decB_yes {l : List UInt8} (h : decUOk l = true) : decB l = (uOf l, 0) := by
  unfold decB
  rw [h]
  rfl
/-- A record's cells in a block. -/
def UdBox (w : World) (g : Nat) (u : Ud) : Prop := w.heap[g]? = some (.cells #[.int .u8 u.kd, .int .u64 u.x, .int .u32 u.pg, .int .u16 u.sl, .string u.y, .string u.k, .bool u.m, .int .u64 u.t, .int .u32 u.p, .int .u16 u.s, .string u.v, .int .i64 u.d] 34 (0, 0))
theorem UdBox.new (w : World) (u : Ud) : UdBox (w.alloc (.cells #[.int .u8 u.kd, .int .u64 u.x, .int .u32 u.pg, .int .u16 u.sl, .string u.y, .string u.k, .bool u.m, .int .u64 u.t, .int .u32 u.p, .int .u16 u.s, .string u.v, .int .i64 u.d] 34)) w.heap.size u := heap_alloc_new w _
section
variable {w w' : World} {g : Nat} {u : Ud}
theorem UdBox.lt (h : UdBox w g u) : g < w.heap.size := blk_lt h
theorem UdBox.below (h : UdBox w g u) (hb : Below w.heap.size w w') : UdBox w' g u := (hb.block _ (blk_lt h)).trans h
theorem UdBox.keep (h : UdBox w g u) (o : Obj) : UdBox (w.alloc o) g u := heap_keep h
theorem UdBox.kept {q : Nat → Prop} (h : UdBox w g u) (hk : OthersKept w w' q) (hq : ¬ q g) : UdBox w' g u := hk.heap h hq
theorem UdBox.cells (h : UdBox w g u) : g < w.heap.size ∧ w.cell? ⟨g, 0, none⟩ = some (.int .u8 u.kd) ∧ w.cell? ⟨g, 1, none⟩ = some (.int .u64 u.x) ∧ w.cell? ⟨g, 2, none⟩ = some (.int .u32 u.pg) ∧ w.cell? ⟨g, 3, none⟩ = some (.int .u16 u.sl) ∧ w.cell? ⟨g, 4, none⟩ = some (.string u.y) ∧ w.cell? ⟨g, 5, none⟩ = some (.string u.k) ∧ w.cell? ⟨g, 6, none⟩ = some (.bool u.m) ∧ w.cell? ⟨g, 7, none⟩ = some (.int .u64 u.t) ∧ w.cell? ⟨g, 8, none⟩ = some (.int .u32 u.p) ∧ w.cell? ⟨g, 9, none⟩ = some (.int .u16 u.s) ∧ w.cell? ⟨g, 10, none⟩ = some (.string u.v) ∧ w.cell? ⟨g, 11, none⟩ = some (.int .i64 u.d) := by
  unfold UdBox at h
  exact ⟨blk_lt h, by rw [blk_cell h]; rfl, by rw [blk_cell h]; rfl, by rw [blk_cell h]; rfl, by rw [blk_cell h]; rfl, by rw [blk_cell h]; rfl, by rw [blk_cell h]; rfl, by rw [blk_cell h]; rfl, by rw [blk_cell h]; rfl, by rw [blk_cell h]; rfl, by rw [blk_cell h]; rfl, by rw [blk_cell h]; rfl, by rw [blk_cell h]; rfl⟩
end
set_option maxRecDepth 100000 in
/-- A record stored whole into its box. -/
theorem wpList_store_ud {ops : Array Oper} {rest : List Oper} {o : Oper} {a : Act} {w : World} {Q : Exit → Act → World → Prop} (hgd : o.guard = none) (x y : Operand) (ho : o.op = .store 34 x y)
    {g : Nat} {u : Ud} (h : UdBox w g u) (d : Ud)
    (hx : a.eval x = .pointer (some ⟨g, 0, none⟩)) (hy : a.eval y = .agg #[.int .u8 d.kd, .int .u64 d.x, .int .u32 d.pg, .int .u16 d.sl, .string d.y, .string d.k, .bool d.m, .int .u64 d.t, .int .u32 d.p, .int .u16 d.s, .string d.v, .int .i64 d.d])
    (hk : ∀ W, UdBox W g d → OthersKept w W (fun x => x = g) → wpList Tryz.prog ops Q rest (a.put o.dst undef) W) : wpList Tryz.prog ops Q (o :: rest) a w :=
  wpList_store_row hgd 34 x y ho g _ hx hy 34 _ h (by kernel_rfl) rfl (by simp [Value.oneCell']) (hk _ (setRow_heap w g _ _ _ _ h) (setRow_kept _ _ _))
theorem results_ud {fn : Func} {p u : Tmp} (h : fn.results = #[.cell p 34, .tmp u]) (tmps : Array Value) (w : World) {g : Nat} {d : Ud} (hp : tmps.getD p undef = .pointer (some ⟨g, 0, none⟩)) (hb : UdBox w g d) :
    (results fn tmps).run Tryz.prog w = .ok (.tuple #[udV d, tmps.getD u undef]) w := by
  unfold UdBox at hb
  rw [results_cell_tmp h, hp]
  simp [asAddr, run_loadVar_row w g 34 34 _ (0, 0) _ hb Tryz.underlying34 rfl (by kernel_rfl), Result.andThen, udV]
theorem eqUdSelf (u : Ud) (w : World) : (binOp .eql 34 (.agg #[.int .u8 u.kd, .int .u64 u.x, .int .u32 u.pg, .int .u16 u.sl, .string u.y, .string u.k, .bool u.m, .int .u64 u.t, .int .u32 u.p, .int .u16 u.s, .string u.v, .int .i64 u.d]) (.agg #[.int .u8 u.kd, .int .u64 u.x, .int .u32 u.pg, .int .u16 u.sl, .string u.y, .string u.k, .bool u.m, .int .u64 u.t, .int .u32 u.p, .int .u16 u.s, .string u.v, .int .i64 u.d])).run Tryz.prog w = .ok (.bool true) w := by
  simp [go_sem]
/-- Where a record is, in a block. -/
def RlBox (w : World) (g a b : Nat) : Prop := w.heap[g]? = some (.cells #[.int .u32 a, .int .u16 b] 30 (0, 0))
def rlV (a b : Nat) : Value := .agg #[.int .u32 a, .int .u16 b]
theorem RlBox.new (w : World) (a b : Nat) : RlBox (w.alloc (.cells #[.int .u32 a, .int .u16 b] 30)) w.heap.size a b := heap_alloc_new w _
theorem RlBox.lt {w : World} {g a b : Nat} (h : RlBox w g a b) : g < w.heap.size := blk_lt h
theorem RlBox.below {w w' : World} {g a b : Nat} (h : RlBox w g a b) (hb : Below w.heap.size w w') : RlBox w' g a b := (hb.block _ (blk_lt h)).trans h
theorem RlBox.keep {w : World} {g a b : Nat} (h : RlBox w g a b) (o : Obj) : RlBox (w.alloc o) g a b := heap_keep h
theorem RlBox.kept {w w' : World} {g a b : Nat} {q : Nat → Prop} (h : RlBox w g a b) (hk : OthersKept w w' q) (hq : ¬ q g) : RlBox w' g a b := hk.heap h hq
theorem RlBox.cells {w : World} {g a b : Nat} (h : RlBox w g a b) : g < w.heap.size ∧ w.cell? ⟨g, 0, none⟩ = some (.int .u32 a) ∧ w.cell? ⟨g, 1, none⟩ = some (.int .u16 b) := by
  unfold RlBox at h
  exact ⟨blk_lt h, by rw [blk_cell h]; rfl, by rw [blk_cell h]; rfl⟩
set_option maxRecDepth 100000 in
theorem wpList_store_rl {ops : Array Oper} {rest : List Oper} {o : Oper} {a : Act} {w : World} {Q : Exit → Act → World → Prop} (hgd : o.guard = none) (x y : Operand) (ho : o.op = .store 30 x y)
    {g a0 b0 : Nat} (h : RlBox w g a0 b0) (a1 b1 : Nat)
    (hx : a.eval x = .pointer (some ⟨g, 0, none⟩)) (hy : a.eval y = .agg #[.int .u32 a1, .int .u16 b1])
    (hk : ∀ W, RlBox W g a1 b1 → OthersKept w W (fun x => x = g) → wpList Tryz.prog ops Q rest (a.put o.dst undef) W) : wpList Tryz.prog ops Q (o :: rest) a w :=
  wpList_store_row hgd 30 x y ho g _ hx hy 30 _ h (by kernel_rfl) rfl (by simp [Value.oneCell']) (hk _ (setRow_heap w g _ _ _ _ h) (setRow_kept _ _ _))
set_option maxRecDepth 100000 in
theorem step_store_rl {ops : Array Oper} {o : Oper} {a : Act} {w : World} {K : Act → World → Prop} {Q : Exit → Act → World → Prop} {E : Prop} (hgd : o.guard = none) (x y : Operand) (ho : o.op = .store 30 x y)
    {g a0 b0 : Nat} (h : RlBox w g a0 b0) (a1 b1 : Nat)
    (hx : a.eval x = .pointer (some ⟨g, 0, none⟩)) (hy : a.eval y = .agg #[.int .u32 a1, .int .u16 b1])
    (hk : ∀ W, RlBox W g a1 b1 → OthersKept w W (fun x => x = g) → K (a.put o.dst undef) W) :
    if Region.wanted o (yielded ops a.tmps) = true then Oper.wp Tryz.prog o a w K Q else E := by
  rw [if_pos (by simp [Region.wanted, hgd])]
  exact wp_store_row 30 x y ho g _ hx hy 30 _ h (by kernel_rfl) rfl (by simp [Value.oneCell']) (hk _ (setRow_heap w g _ _ _ _ h) (setRow_kept _ _ _))
theorem eqRlSelf (a b : Nat) (w : World) : (binOp .eql 30 (.agg #[.int .u32 a, .int .u16 b]) (.agg #[.int .u32 a, .int .u16 b])).run Tryz.prog w = .ok (.bool true) w := by
  simp [go_sem]
/-- What a call leaves that gives a place, an op and an error. -/
theorem results_add {fn : Func} {p q u : Tmp} (h : fn.results = #[.cell p 30, .cell q 40, .tmp u]) (tmps : Array Value) (w : World) {g f a b : Nat} {o : Od} {sv : Value} (hp : tmps.getD p undef = .pointer (some ⟨g, 0, none⟩)) (hq : tmps.getD q undef = .pointer (some ⟨f, 0, none⟩)) (hb : RlBox w g a b) (ho : OAt w f o sv) :
    (results fn tmps).run Tryz.prog w = .ok (.tuple #[rlV a b, odV o sv, tmps.getD u undef]) w := by
  unfold RlBox at hb
  unfold OAt at ho
  have hp2 : tmps[p]?.getD undef = .pointer (some ⟨g, 0, none⟩) := by simpa using hp
  have hq2 : tmps[q]?.getD undef = .pointer (some ⟨f, 0, none⟩) := by simpa using hq
  simp [results, h, hp2, hq2, asAddr, run_loadVar_row w g 30 30 _ (0, 0) _ hb Tryz.underlying30 rfl (by kernel_rfl), run_loadVar_row w f 40 40 _ (0, 0) _ ho Tryz.underlying40 rfl (by kernel_rfl), Result.andThen, odV, rlV]
/-- Is a page one that has undo records? -/
def uFine (p : Pg) : Bool := decide (p.kind = 3) && p.may
/-- What Add answers: where, by which op, which error. -/
def sAddB (p : Pg) (l : List UInt8) : (Nat × Nat) × Od × Int :=
  if uFine p then (if decUOk l then (if roomB p.rows < (l.length : Int) then ((0, 0), Od.zero, 4) else ((p.id, p.rows.length % 65536), ⟨2, p.id, (p.rows.length : Nat), 0, l, [], 0, 0, 0⟩, 0)) else ((0, 0), Od.zero, 2)) else ((0, 0), Od.zero, 60)
/-- What Get answers. -/
def sGetB (p : Pg) (slot : Nat) : Ud × Int :=
  if uFine p then (if slot < p.rows.length then (if decUOk (p.rows.getD slot []) then (uOf (p.rows.getD slot []), 0) else (Ud.zero, 60)) else (Ud.zero, 3)) else (Ud.zero, 60)
end Go.Proofs.YtienlhnbmobinaaGreat
end

section
/- what records are written as; records in memory -/
namespace Go.Proofs.YtienlhnbmobinaaGreat
open Go.RowKit
set_option linter.unusedVariables false
set_option linter.unusedSimpArgs false
def Ud.may (u : Ud) : Bool := mayUndo u.kd u.x u.pg u.sl u.y u.k u.m u.t u.p u.s u.v u.d
def Ud.enc (u : Ud) : List UInt8 := encUndo u.kd u.x u.pg u.sl u.y.data.toList u.k.data.toList u.m u.t u.p u.s u.v.data.toList u.d
/-- What a record is written as; nothing: it may not be. -/
def Ud.out (u : Ud) : List UInt8 := if u.may then u.enc else []
def Ud.wf (u : Ud) : Prop := u.y.size ≤ maxLen ∧ u.k.size ≤ maxLen ∧ u.v.size ≤ maxLen ∧ u.x < 256 ^ 8 ∧ u.sl < 256 ^ 2 ∧ u.t < 256 ^ 8 ∧ u.s < 256 ^ 2
theorem Ud.out_len (u : Ud) : u.out.length ≤ 400 := by
  unfold Ud.out
  cases hm : u.may with
  | false => exact Nat.zero_le _
  | true =>
    rw [if_pos rfl]
    unfold Ud.may at hm
    obtain ⟨hh, hk⟩ := mayUndo_kind hm
    unfold UHead at hh
    unfold Ud.enc encUndo
    by_cases h1 : u.kd = 1
    · rw [if_pos h1]
      simp [be_length]
      have : u.y.data.size = u.y.size := rfl
      omega
    · rw [if_neg h1]
      rcases hk with ⟨a, _⟩ | ⟨_, _, a⟩
      · omega
      · have := mayRow_iff.1 a
        have e1 : u.k.data.size = u.k.size := rfl
        have e2 : u.v.data.size = u.v.size := rfl
        unfold encRow
        simp [be_length]
        omega
theorem refUndoEncode_any (u : Ud) (w : World) (h : u.wf) :
    Calls Tryz.prog 6 #[udV u] w fun e w' => e = .returned (.string ⟨u.out.toArray⟩) ∧ Below w.heap.size w w' := by
  obtain ⟨kd, x, pg, sl, y, k, m, t, p, s, v, d⟩ := u
  unfold Ud.wf at h
  unfold udV Ud.out Ud.may Ud.enc
  simp only at h ⊢
  obtain ⟨hy, hk, hv, hx, hsl, ht, hs⟩ := h
  cases hm : mayUndo kd x pg sl y k m t p s v d with
  | false => exact refUndoEncode_no kd x pg sl y k v m t p s d w hy hk hv hm
  | true =>
    rw [if_pos rfl]
    rcases (mayUndo_kind hm).2 with ⟨a, _⟩ | ⟨a, _, b⟩
    · exact refUndoEncode_1 kd x pg sl y k v m t p s d w hy hk hv hx hsl ht hs a hm
    · have hd := mayRow_iff.1 b
      obtain ⟨D, rfl⟩ : ∃ D : Nat, d = (D : Int) := ⟨d.toNat, by omega⟩
      exact refUndoEncode_2 kd x pg sl y k v m t p s D w hy hk hv hx hsl ht hs a hm
/-- A record's cells. -/
def Ud.cell (u : Ud) : List Value := [.int .u8 u.kd, .int .u64 u.x, .int .u32 u.pg, .int .u16 u.sl, .string u.y, .string u.k, .bool u.m, .int .u64 u.t, .int .u32 u.p, .int .u16 u.s, .string u.v, .int .i64 u.d]
/-- Records in memory. -/
def UdsAt (w : World) (v : Value) (L : List Ud) : Prop :=
  ∃ (A : Option Addr) (cp : Nat), v = .slice A L.length cp ∧ L.length ≤ cp ∧ cp ≤ maxLen ∧ (0 < L.length → ∃ b o, A = some ⟨b, o, none⟩ ∧ b < w.heap.size ∧ ∀ j (h : j < L.length) i u, L[j].cell[i]? = some u → w.cell? ⟨b, o + j * 12 + i, none⟩ = some u)
theorem UdsAt.below {w w' : World} {v : Value} {L : List Ud} (h : UdsAt w v L) (hb : Below w.heap.size w w') : UdsAt w' v L := by
  obtain ⟨A, cp, h1, h2, h3, h4⟩ := h
  refine ⟨A, cp, h1, h2, h3, fun h0 => ?_⟩
  obtain ⟨b, o, e1, e2, e3⟩ := h4 h0
  exact ⟨b, o, e1, Nat.lt_of_lt_of_le e2 hb.size, fun j hj i u hu => (hb.cell (p := ⟨b, o + j * 12 + i, none⟩) e2).trans (e3 j hj i u hu)⟩
/-- The cells of a record in a row. -/
theorem UdsAt.row12 {w : World} {A : Option Addr} {n cp : Nat} {L : List Ud} (h : UdsAt w (.slice A n cp) L) (hn : n = L.length) (h0 : 0 < n) : ∃ b o, A = some ⟨b, o, none⟩ ∧ b < w.heap.size ∧ ∀ j (h : j < L.length), w.cell? ⟨b, o + j * 12, none⟩ = some (.int .u8 L[j].kd) ∧ w.cell? ⟨b, o + j * 12 + 1, none⟩ = some (.int .u64 L[j].x) ∧ w.cell? ⟨b, o + j * 12 + 2, none⟩ = some (.int .u32 L[j].pg) ∧ w.cell? ⟨b, o + j * 12 + 3, none⟩ = some (.int .u16 L[j].sl) ∧ w.cell? ⟨b, o + j * 12 + 4, none⟩ = some (.string L[j].y) ∧ w.cell? ⟨b, o + j * 12 + 5, none⟩ = some (.string L[j].k) ∧ w.cell? ⟨b, o + j * 12 + 6, none⟩ = some (.bool L[j].m) ∧ w.cell? ⟨b, o + j * 12 + 7, none⟩ = some (.int .u64 L[j].t) ∧ w.cell? ⟨b, o + j * 12 + 8, none⟩ = some (.int .u32 L[j].p) ∧ w.cell? ⟨b, o + j * 12 + 9, none⟩ = some (.int .u16 L[j].s) ∧ w.cell? ⟨b, o + j * 12 + 10, none⟩ = some (.string L[j].v) ∧ w.cell? ⟨b, o + j * 12 + 11, none⟩ = some (.int .i64 L[j].d) := by
  obtain ⟨A2, cp2, hv2, _, _, h52⟩ := h
  obtain ⟨b0, o0, hA2, hb0, hcell⟩ := h52 (by omega)
  refine ⟨b0, o0, by injection hv2 with e1; exact e1.trans hA2, hb0, fun j hj => ⟨?_, hcell j hj 1 _ rfl, hcell j hj 2 _ rfl, hcell j hj 3 _ rfl, hcell j hj 4 _ rfl, hcell j hj 5 _ rfl, hcell j hj 6 _ rfl, hcell j hj 7 _ rfl, hcell j hj 8 _ rfl, hcell j hj 9 _ rfl, hcell j hj 10 _ rfl, hcell j hj 11 _ rfl⟩⟩
  have := hcell j hj 0 _ rfl
  rwa [Nat.add_zero] at this
theorem UdBox.grown {w w' : World} {g : Nat} {u : Ud} {r : Option Nat} (h : UdBox w g u) (hg : w.grownBy w' r) (hne : some g ≠ r) : UdBox w' g u := (hg.block g (blk_lt h) hne).trans h
end Go.Proofs.YtienlhnbmobinaaGreat
end

section
/- records that came in -/
namespace Go.Proofs.YtienlhnbmobinaaGreat
open Go.RowKit
set_option linter.unusedVariables false
set_option linter.unusedSimpArgs false
/-- Records that came in. -/
theorem uds_of_rows {R : TypeId → Value → Prop} {w : World} {a : Option Addr} {len cap : Nat} (h : IsRows R [.u8, .u64, .u32, .u16, .str, .str, .bool, .u64, .u32, .u16, .str, .i64] w a len cap) : ∃ L : List Ud, UdsAt w (.slice a len cap) L ∧ ∀ r ∈ L, r.wf := by
  rcases h with ⟨rfl, rfl, rfl⟩ | ⟨x, rfl, hl, hc, hcell⟩
  · exact ⟨[], ⟨none, 0, rfl, Nat.le_refl _, Nat.zero_le _, fun h => absurd h (Nat.lt_irrefl 0)⟩, fun r hr => by cases hr⟩
  · have hall : ∀ i, i < len → ∃ c : Ud, (∀ j v, c.cell[j]? = some v → w.cell? (x.add (i * 12 + j)) = some v) ∧ c.wf := by
      intro i hi
      obtain ⟨v0, h0, n0, rfl, hn0⟩ := hcell i hi 0 .u8 rfl
      obtain ⟨v1, h1, n1, rfl, hn1⟩ := hcell i hi 1 .u64 rfl
      obtain ⟨v2, h2, n2, rfl, hn2⟩ := hcell i hi 2 .u32 rfl
      obtain ⟨v3, h3, n3, rfl, hn3⟩ := hcell i hi 3 .u16 rfl
      obtain ⟨v4, h4, n4, rfl, hn4⟩ := hcell i hi 4 .str rfl
      obtain ⟨v5, h5, n5, rfl, hn5⟩ := hcell i hi 5 .str rfl
      obtain ⟨v6, h6, n6, rfl⟩ := hcell i hi 6 .bool rfl
      obtain ⟨v7, h7, n7, rfl, hn7⟩ := hcell i hi 7 .u64 rfl
      obtain ⟨v8, h8, n8, rfl, hn8⟩ := hcell i hi 8 .u32 rfl
      obtain ⟨v9, h9, n9, rfl, hn9⟩ := hcell i hi 9 .u16 rfl
      obtain ⟨va, ha, na, rfl, hna⟩ := hcell i hi 10 .str rfl
      obtain ⟨vb, hb, nb, rfl, hnb⟩ := hcell i hi 11 .i64 rfl
      refine ⟨⟨n0, n1, n2, n3, n4, n5, n6, n7, n8, n9, na, nb⟩, fun j v hj => ?_, hn4, hn5, hna, hn1, hn3, hn7, hn9⟩
      match j, hj with
      | 0, hu => injection hu with hu; rw [← hu]; exact h0
      | 1, hu => injection hu with hu; rw [← hu]; exact h1
      | 2, hu => injection hu with hu; rw [← hu]; exact h2
      | 3, hu => injection hu with hu; rw [← hu]; exact h3
      | 4, hu => injection hu with hu; rw [← hu]; exact h4
      | 5, hu => injection hu with hu; rw [← hu]; exact h5
      | 6, hu => injection hu with hu; rw [← hu]; exact h6
      | 7, hu => injection hu with hu; rw [← hu]; exact h7
      | 8, hu => injection hu with hu; rw [← hu]; exact h8
      | 9, hu => injection hu with hu; rw [← hu]; exact h9
      | 10, hu => injection hu with hu; rw [← hu]; exact ha
      | 11, hu => injection hu with hu; rw [← hu]; exact hb
      | k + 12, hu => simp [Ud.cell] at hu
    rcases Nat.eq_zero_or_pos len with rfl | hpos
    · exact ⟨[], ⟨_, cap, rfl, Nat.zero_le _, hc, fun h => absurd h (Nat.lt_irrefl 0)⟩, fun r hr => by cases hr⟩
    obtain ⟨L, hL, hp⟩ := list_of len hall
    have h00 := (hp 0 (by omega)).1 0 _ rfl
    have e0 : x.add (0 * 12 + 0) = x := rfl
    rw [e0] at h00
    obtain ⟨b, o, rfl⟩ := spot_noneT h00
    have hblt : b < w.heap.size := cell_lt h00
    refine ⟨L, ⟨_, cap, by rw [hL], by rw [hL]; exact hl, hc, fun _ => ⟨b, o, rfl, hblt, fun j hj i v hv => ?_⟩⟩, fun r hr => ?_⟩
    · have := (hp j hj).1 i v hv
      rw [Addr.add_lit] at this
      rwa [show o + j * 12 + i = o + (j * 12 + i) by omega]
    · obtain ⟨i, hi, rfl⟩ := List.getElem_of_mem hr
      exact (hp i hi).2
end Go.Proofs.YtienlhnbmobinaaGreat
end
