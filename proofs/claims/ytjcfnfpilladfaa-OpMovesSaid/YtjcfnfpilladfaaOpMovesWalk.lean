/- OpMoves: the walk -/
import Derived.Test.YtjcfnfpilladfaaRows
import Derived.Test.YtjcfnfpilladfaaAppTwo
import Derived.Test.YtjcfnfpilladfaaOpIn
import Derived.Test.YtjcfnfpilladfaaOpPlain
import Derived.Test.YtjcfnfpilladfaaOpLaw
import Derived.Test.YtjcfnfpilladfaaTextsP
import Derived.Test.YtjcfnfpilladfaaTextsMove
import Derived.Test.YtjcfnfpilladfaaPlains
import Derived.Test.YtjcfnfpilladfaaBase
import Derived.Test.YtjcfnfpilladfaaTextsIn
import Derived.Test.YtjcfnfpilladfaaOpenFlat
import Derived.Test.YtjcfnfpilladfaaHeavy11
import Derived.Test.YtjcfnfpilladfaaPgsOwn
import Derived.Test.YtjcfnfpilladfaaNodeWeigh
import Derived.Test.YtjcfnfpilladfaaOpRedo11
import Derived.Test.YtjcfnfpilladfaaOpApply
import Derived.Test.YtjcfnfpilladfaaOpDoes
import Derived.Test.YtjcfnfpilladfaaOpWrite
import Derived.Test.YtjcfnfpilladfaaOpEnc
import Derived.Test.YtjcfnfpilladfaaOpPart
import Derived.Test.YtjcfnfpilladfaaOpDoesMap
import Derived.Test.YtjcfnfpilladfaaRefBytes11
import Derived.Test.YtjcfnfpilladfaaAlive11
import Derived.Test.YtjcfnfpilladfaaPgStore
import Derived.Test.YtjcfnfpilladfaaRedoLaw
import Derived.Test.YtjcfnfpilladfaaMovesLaw
import Derived.Test.YtjcfnfpilladfaaOpDec
import Derived.Test.YtjcfnfpilladfaaOpRedoWalk
import Derived.Deep.CutBlock
import Derived.Deep.RegionHeld
import Derived.WalkKit
import Derived.WalkLawsBesides
import Derived.WalkSpells
import Derived.LoopTactic
import Derived.WalkMore
import Derived.LoopN
import Derived.Laws.BitsAllLaws
import Derived.Laws.IdiomStrings
import Derived.BigQuiet
import Derived.Deep.QuietTactic
import Derived.Deep.DeepCutAuto
import Derived.Deep.RegionHeld3
import Derived.Deep.DrawnRows
import Derived.Lib.Hide
import Derived.Outline
import Derived.Deep.DeepMust
import Derived.Handy
namespace Go.Proofs.Ytjcfnfpilladfaa
open Go.RowKit
set_option linter.unusedVariables false
set_option linter.unusedSimpArgs false

theorem reads_noneP (w : World) (a : Addr) (n c : Nat) (h : n = 0) : Reads w (.slice (some a) n c) n 1 [] := by
  subst h
  exact .inr ⟨a, c, rfl, rfl, fun j u hu => by cases hu⟩
theorem TextsAt.back {w : World} {a : Addr} {n cp : Nat} {ts : List (List UInt8)} (h : TextsAt w (.slice (some a) n cp) ts) (k c : Nat) (hk : k ≤ n) : Reads w (.slice (some (a.add k)) (n - k) c) (n - k) 1 (strs (ts.drop k)) := by
  obtain ⟨A', cp', e, h2, h3, h4, h5⟩ := h
  injection e with e1 e2 e3
  subst e1; subst e3; subst e2
  refine .inr ⟨_, _, rfl, by simp [strs], fun j u hu => ?_⟩
  have hj : k + j < ts.length := by
    have := (List.getElem?_eq_some_iff.1 hu).1
    simp [strs] at this
    omega
  obtain ⟨b, o, e, _, hc⟩ := h5 (by omega)
  injection e with e
  subst e
  rw [strs_drop, List.getElem?_drop, strs_get ts _ hj] at hu
  injection hu with hu
  rw [← hu]
  simp only [Addr.add_lit]
  rw [Nat.add_assoc]
  exact hc _ hj
theorem TextsAt.backR {w : World} {A : Option Addr} {n cp : Nat} {ts : List (List UInt8)} (h : TextsAt w (.slice A n cp) ts) (k : Nat) (hk : k ≤ n) : Reads w (.slice (if cp = k then A else Option.map (fun x => x.add k) A) (n - k) (cp - k)) (n - k) 1 (strs (ts.drop k)) := by
  have hh := h
  obtain ⟨A', cp', e, h2, h3, h4, h5⟩ := h
  injection e with e1 e2 e3
  subst e1; subst e3
  cases A with
  | none =>
    obtain ⟨h6, h7⟩ := h4 rfl
    subst h6
    obtain rfl : n = 0 := by simpa using e2
    obtain rfl : k = 0 := by omega
    subst h7
    exact .inl ⟨by simp, rfl, by simp [strs]⟩
  | some a =>
    split
    · rename_i hc
      have hd : ts.drop k = [] := List.drop_eq_nil_of_le (by omega)
      rw [hd]
      exact reads_noneP _ _ _ _ (by omega)
    · exact TextsAt.back hh k (cp - k) hk
theorem od_ok {o : Od} (hk : o.kind < 256) (hpg : o.page < 256 ^ 4) (ha : 0 ≤ o.at_ ∧ o.at_ ≤ 1000) (ho : o.off = 0) (hpk : o.pk < 256) (hlv : o.lv < 256) (hnx : o.nx < 256 ^ 4) : o.wf :=
  ⟨hk, hpg, ⟨by omega, by omega⟩, ⟨by omega, by omega⟩, hpk, hlv, hnx⟩
theorem ops_lit2 (w : World) (L : List Ov) (cs : Array Value) (k : Nat) (hk : k = L.length) (h : cs = (L.flatMap Ov.cell).toArray) (hr : ∀ e ∈ L, TextsAt w e.sv e.o.rows) (hl : L.length ≤ 1000000) : OpsAt (w.alloc (.cells cs 26)) (.slice (some ⟨w.heap.size, 0, none⟩) k k) L := by
  subst h
  subst hk
  refine ⟨_, L.length, rfl, Nat.le_refl _, by unfold maxLen; omega, fun _ => ⟨w.heap.size, 0, rfl, by simp, fun j hj i v hv => ?_⟩, fun e he => (hr e he).below (alloc_below _ _)⟩
  rw [show 0 + j * 9 + i = j * 9 + i by omega, blk_cell (heap_alloc_new w _)]
  simpa using flat_getO _ j i v hj hv
def roomV (rows : List (List UInt8)) : Int := if (484 : Int) - (weightB rows : Nat) - 4 < 0 then -1 else (484 : Int) - (weightB rows : Nat) - 4
theorem roomV_neg {rows : List (List UInt8)} (h : roomV rows < 0) : rows.length ≠ 0 := by
  intro h0
  have : rows = [] := List.eq_nil_of_length_eq_zero h0
  subst this
  revert h
  decide
set_option maxHeartbeats 2000000 in
theorem refRoom06_any (p : Pg) (sv : Value) (w : World) (ht : TextsAt w sv p.rows) (hb : weightB p.rows ≤ 1000000) :
    Calls Try.prog 32 #[pgV p sv] w fun e w' => e = .returned (.int .i64 (roomV p.rows)) ∧ Below w.heap.size w w' := by
  have C := Lib.hid fun W (hW : TextsAt W sv p.rows) => refLeft_any p sv W hW hb
  have HT := Lib.hid ht
  obtain ⟨v, hv⟩ : ∃ v, v = roomV p.rows := ⟨_, rfl⟩
  rw [← hv]
  have HV := Lib.hid hv
  obtain ⟨kind, level, id, lsn, next, rows⟩ := p
  obtain ⟨A, cp, rfl, h2, h3, h4, h5⟩ := ht
  obtain ⟨n, hn⟩ : ∃ n, n = rows.length := ⟨_, rfl⟩
  simp only at *
  rw [← hn] at HT C ⊢
  obtain ⟨wt, hwt⟩ : ∃ k, k = weightB rows := ⟨_, rfl⟩
  rw [← hwt] at hb C
  have HWT := Lib.hid hwt
  clear hn h2 h3 h4 h5 hv hwt
  unfold pgV at *
  simp only at C
  have P0 := PgBox.new w kind level id lsn next (.slice A n cp)
  have B0 := Lib.hid (alloc_below w (.cells #[.int .u8 kind, .int .u8 level, .int .u32 id, .int .u64 lsn, .int .u32 next, .slice A n cp] 45))
  go_enter Try.func32, Try.ntmps32
  go_upto_region 1 with fail
  generalize w.alloc (.cells #[.int .u8 kind, .int .u8 level, .int .u32 id, .int .u64 lsn, .int .u32 next, .slice A n cp] 45) = w0 at *
  obtain ⟨_, p0, p1, p2, p3, p4, p5⟩ := P0.cells
  go_wp2_with fail
  refine (C.out _ (HT.out.below B0.out)).mono ?_
  rintro e w1 ⟨rfl, hb1⟩
  have B1 := Lib.hid (below_then B0.out hb1)
  clear hb1 p0 p1 p2 p3 p4 p5 P0 B0 C
  have m1 : IntKind.i64.wrap ((484 : Int) - (wt : Nat) - 4) = (484 : Int) - (wt : Nat) - 4 := IntWalk.i64_in _ ⟨by omega, by omega⟩
  by_cases hc : (484 : Int) - (wt : Nat) - 4 < 0
  · have HX : Hid (v = -1) := by show _ = _; rw [HV.out]; unfold roomV; rw [← HWT.out, if_pos hc]
    go_wp2_with fail
    go_ret
    exact ⟨by rw [HX.out]; rfl, B1.out⟩
  · have HX : Hid (v = (484 : Int) - (wt : Nat) - 4) := by show _ = _; rw [HV.out]; unfold roomV; rw [← HWT.out, if_neg hc]
    go_wp2_with fail
    go_ret
    exact ⟨by rw [HX.out]; rfl, B1.out⟩
set_option maxHeartbeats 8000000 in
set_option maxRecDepth 100000 in
theorem opMovesLaw_any (p : Pg) (sv : Value) (at_ : Nat) (text : List UInt8) (w : World) (hp : p.wf) (ht : TextsAt w sv p.rows) (hz : ∀ r ∈ p.rows, r.length ≤ 140737488351232) (hat : at_ < 256) (hx : text.length ≤ 140737488351232) :
    Calls Try.prog 6 #[pgV p sv, .int .u8 at_, .string ⟨text.toArray⟩] w fun e w' => e = .returned (.bool true) ∧ Below w.heap.size w w' := by
  have AL := Lib.hid fun W => alive11_any W
  have HV := Lib.hid fun W (h : TextsAt W sv p.rows) => heavy06_any p sv W h hz
  have RM := Lib.hid fun (hb : weightB p.rows ≤ 1000000) W (h : TextsAt W sv p.rows) => refRoom06_any p sv W h hb
  have MY := Lib.hid fun (hb : weightB p.rows ≤ 1000000) W (h : TextsAt W sv p.rows) => refMay06_any p sv W hp h hb
  have hwt := weight_heavy p.rows
  obtain ⟨kind, level, id, lsn, next, rows⟩ := p
  have HP := Lib.hid hp
  have ht2 := ht
  obtain ⟨A, cp, rfl, h2, h3, h4, h5⟩ := ht2
  obtain ⟨n, hn⟩ : ∃ n, n = rows.length := ⟨_, rfl⟩
  have HT := Lib.hid ht
  simp only at h2 h3 hwt RM MY HV HT
  rw [← hn] at HT HV RM MY h2 ⊢
  have HN := Lib.hid hn
  obtain ⟨hv, hhv⟩ : ∃ k, k = heavyB rows := ⟨_, rfl⟩
  rw [← hhv] at HV hwt
  have wle : ¬ 4096 < hv → weightB rows ≤ 20000 := by omega
  have HWL := Lib.hid wle
  obtain ⟨room, hroom⟩ : ∃ k, k = roomV rows := ⟨_, rfl⟩
  rw [← hroom] at RM
  have hrn : room < 0 → n ≠ 0 := fun h => by rw [hn]; exact roomV_neg (by rw [← hroom]; exact h)
  have HRN := Lib.hid hrn
  obtain ⟨my, hmy⟩ : ∃ b, b = (Pg.may ⟨kind, level, id, lsn, next, rows⟩) := ⟨_, rfl⟩
  rw [← hmy] at MY
  have HMY := Lib.hid hmy
  clear hhv wle hwt hn h4 h5 hz hroom hrn hmy ht hp
  unfold pgV at HV RM MY ⊢
  simp only at HV RM MY ⊢
  unfold maxLen at h3
  obtain ⟨i0, hif, hz0, hz1, hz2⟩ := info_parts Try.infoStrM
  have HI := Lib.hid hif
  have HI0 := Lib.hid hz0
  have HI1 := Lib.hid hz1
  have HI2 := Lib.hid hz2
  clear hif hz0 hz1 hz2
  have aliveEnd := Lib.hid fun (W : World) (hW : Below w.heap.size w W) => (AL.out W).mono (R' := fun e w' => e = .returned (.bool true) ∧ Below w.heap.size w w') (fun e w' h => ⟨h.1, below_then hW h.2⟩)
  have P0 := Lib.hid (PgBox.new w kind level id lsn next (.slice A n cp))
  have B0 := Lib.hid (alloc_below w (.cells #[.int .u8 kind, .int .u8 level, .int .u32 id, .int .u64 lsn, .int .u32 next, .slice A n cp] 45))
  go_enter Try.func6, Try.ntmps6
  go_upto_region 1 with fail
  generalize w.alloc (.cells #[.int .u8 kind, .int .u8 level, .int .u32 id, .int .u64 lsn, .int .u32 next, .slice A n cp] 45) = w0 at *
  have T0 := Lib.hid (HT.out.below B0.out)
  obtain ⟨b9, hb9⟩ : ∃ b, b = decide (id = 9) := ⟨_, rfl⟩
  have b9i : ((id : Int) == 9) = b9 := by
    rw [hb9]
    by_cases h : id = 9
    · subst h; rfl
    · rw [decide_eq_false h]; simp; omega
  have HB9 := Lib.hid hb9
  clear hb9
  obtain ⟨big, hbig⟩ : ∃ b, b = (decide (4096 < hv) || decide (1024 < text.length) || !my || b9) := ⟨_, rfl⟩
  have HBIG := Lib.hid hbig
  have BQ0 := Lib.hid (Below.refl w0.heap.size w0)
  clear hbig HT
  obtain ⟨_, p0, p1, p2, p3, p4, p5⟩ := P0.out.cells
  have hxs : text.toArray.size = text.length := by simp
  go_cut [50] (fun s w' => s = .bool big ∧ Hid (Below w0.heap.size w0 w'))
  case first =>
    go_wp2_with fail
    refine (HV.out _ T0.out).mono ?_
    rintro e wq1 ⟨rfl, hb⟩
    have BQ1 := Lib.hid (below_then BQ0.out hb)
    have T1 := Lib.hid (T0.out.below hb)
    have P1 := Lib.hid (P0.out.below hb)
    clear hb p0 p1 p2 p3 p4 p5 P0 T0 BQ0
    obtain ⟨_, p0, p1, p2, p3, p4, p5⟩ := P1.out.cells
    by_cases h1 : 4096 < hv
    · rw [decide_eq_true h1]
      have HX : Hid (big = true) := by show _ = _; rw [HBIG.out]; rw [decide_eq_true h1]; rfl
      clear HBIG
      go_wp2_with fail
      go_meet
      exact ⟨by rw [HX.out] <;> first | done | rfl | (rw [decide_eq_false (by omega : ¬ (1024 : Int) < (text.length : Int))]; rfl), BQ1⟩
    rw [decide_eq_false h1]
    by_cases h2x : 1024 < text.length
    · have h2i : (1024 : Int) < (text.length : Int) := by omega
      have HX : Hid (big = true) := by show _ = _; rw [HBIG.out]; rw [decide_eq_true h2x, Bool.or_true]; rfl
      clear HBIG
      go_wp2_with fail
      go_meet
      exact ⟨by rw [HX.out] <;> first | done | rfl | (rw [decide_eq_false (by omega : ¬ (1024 : Int) < (text.length : Int))]; rfl), BQ1⟩
    have h2i : ¬ (1024 : Int) < (text.length : Int) := by omega
    have hb9 : weightB rows ≤ 1000000 := by have := HWL.out h1; omega
    have RM1 := Lib.hid (RM.out hb9)
    have MY1 := Lib.hid (MY.out hb9)
    clear RM MY HV HWL
    go_wp2_with fail
    refine (RM1.out _ T1.out).mono ?_
    rintro e wq2 ⟨rfl, hb⟩
    have BQ2 := Lib.hid (below_then BQ1.out hb)
    have T2 := Lib.hid (T1.out.below hb)
    have P2 := Lib.hid (P1.out.below hb)
    clear hb p0 p1 p2 p3 p4 p5 P1 T1 BQ1
    obtain ⟨_, p0, p1, p2, p3, p4, p5⟩ := P2.out.cells
    have hroomtest : ∀ (b : Bool), (b = true → room < 0) → (b = false → ¬ room < 0) → True := fun _ _ _ => trivial
    clear hroomtest
    by_cases hr : room < 0
    · have hn0 : ((n : Int) == 0) = false := by have := HRN.out hr; simp; omega
      go_wp2_with fail
      refine (MY1.out _ T2.out).mono ?_
      rintro e wq3 ⟨rfl, hb⟩
      have BQ3 := Lib.hid (below_then BQ2.out hb)
      have T3 := Lib.hid (T2.out.below hb)
      have P3 := Lib.hid (P2.out.below hb)
      clear hb p0 p1 p2 p3 p4 p5 P2 T2 BQ2
      obtain ⟨_, p0, p1, p2, p3, p4, p5⟩ := P3.out.cells
      cases hm : my with
      | false =>
        have HX : Hid (big = true) := by show _ = _; rw [HBIG.out]; rw [hm, decide_eq_false h1, decide_eq_false h2x]; rfl
        clear HBIG
        go_wp2_with fail
        go_meet
        exact ⟨by rw [HX.out] <;> first | done | rfl | (rw [decide_eq_false (by omega : ¬ (1024 : Int) < (text.length : Int))]; rfl), BQ3⟩
      | true =>
        have HX : Hid (big = b9) := by show _ = _; rw [HBIG.out]; rw [hm, decide_eq_false h1, decide_eq_false h2x]; rfl
        clear HBIG
        go_wp2_with fail
        go_meet
        exact ⟨by rw [HX.out] <;> first | done | rfl | (rw [decide_eq_false (by omega : ¬ (1024 : Int) < (text.length : Int))]; rfl), BQ3⟩
    · skip
      go_wp2_with fail
      refine (MY1.out _ T2.out).mono ?_
      rintro e wq3 ⟨rfl, hb⟩
      have BQ3 := Lib.hid (below_then BQ2.out hb)
      have T3 := Lib.hid (T2.out.below hb)
      have P3 := Lib.hid (P2.out.below hb)
      clear hb p0 p1 p2 p3 p4 p5 P2 T2 BQ2
      obtain ⟨_, p0, p1, p2, p3, p4, p5⟩ := P3.out.cells
      cases hm : my with
      | false =>
        have HX : Hid (big = true) := by show _ = _; rw [HBIG.out]; rw [hm, decide_eq_false h1, decide_eq_false h2x]; rfl
        clear HBIG
        go_wp2_with fail
        go_meet
        exact ⟨by rw [HX.out] <;> first | done | rfl | (rw [decide_eq_false (by omega : ¬ (1024 : Int) < (text.length : Int))]; rfl), BQ3⟩
      | true =>
        have HX : Hid (big = b9) := by show _ = _; rw [HBIG.out]; rw [hm, decide_eq_false h1, decide_eq_false h2x]; rfl
        clear HBIG
        go_wp2_with fail
        go_meet
        exact ⟨by rw [HX.out] <;> first | done | rfl | (rw [decide_eq_false (by omega : ¬ (1024 : Int) < (text.length : Int))]; rfl), BQ3⟩
  case rest =>
    obtain ⟨hs9, HBQ⟩ := hcut
    subst hs9
    clear p0 p1 p2 p3 p4 p5
    have B1 := Lib.hid (below_then B0.out HBQ.out)
    have T1 := Lib.hid (T0.out.below HBQ.out)
    have P1 := Lib.hid (P0.out.below HBQ.out)
    generalize wc = w1 at *
    clear HBQ B0 T0 P0 RM MY HV BQ0 HRN
    cases hbb : big with
    | true =>
      go_wp2_with fail
      refine (aliveEnd.out _ B1.out).mono ?_
      rintro e wa ⟨rfl, hba⟩
      have Ba := Lib.hid hba
      clear hba
      go_wp2_with fail
      go_ret
      exact ⟨rfl, Ba.out⟩
    | false =>
    have hbg := HBIG.out
    rw [hbb, eq_comm, Bool.or_eq_false_iff, Bool.or_eq_false_iff, Bool.or_eq_false_iff, decide_eq_false_iff_not, decide_eq_false_iff_not] at hbg
    obtain ⟨⟨⟨g1, g2⟩, g3⟩, g4⟩ := hbg
    clear b9i
    have hmay : (Pg.may ⟨kind, level, id, lsn, next, rows⟩) = true := by rw [← HMY.out]; simpa using g3
    obtain ⟨w484, n121, hrl⟩ := may_weight hmay
    simp only at w484 n121 hrl
    obtain ⟨k, hk⟩ : ∃ k, k = at_ % (n + 1) := ⟨_, rfl⟩
    have hn121 : n ≤ 121 := by rw [HN.out]; exact n121
    have hkn : k ≤ n := by have := Nat.mod_lt at_ (show 0 < n + 1 by omega); omega
    have hk1 : k ≤ (⟨kind, level, id, lsn, next, rows⟩ : Pg).rows.length := by show k ≤ rows.length; rw [← HN.out]; exact hkn
    have c1 : IntKind.i64.wrap ((at_ : Nat) : Int) = ((at_ : Nat) : Int) := IntWalk.i64_in _ ⟨by omega, by omega⟩
    have c2 : ((at_ : Nat) : Int).tmod ((n : Int) + 1) = (k : Int) := by rw [hk]; exact (Int.ofNat_tmod at_ (n + 1)).symm
    have c3 : ¬ ((n : Int) + 1) = 0 := by omega
    have c4 : IntKind.i64.wrap (k : Int) = (k : Int) := IntWalk.i64_in _ ⟨by omega, by omega⟩
    have k1 : (0 : Int) ≤ (k : Int) := by omega
    have k2 : (k : Int) ≤ (n : Int) := by omega
    have hpw := HP.out
    obtain ⟨hq1, hq2, hq3, hq4, hq5⟩ := hpw
    simp only at hq1 hq2 hq3 hq4 hq5
    have wf1 : (oCut ⟨kind, level, id, lsn, next, rows⟩ k).wf := od_ok (by show 5 < 256; omega) hq3 ⟨by show (0 : Int) ≤ (k : Int); omega, by show (k : Int) ≤ 1000; omega⟩ rfl (by show 0 < 256; omega) (by show 0 < 256; omega) (by show 0 < 256 ^ 4; decide)
    have sm1 : (oCut ⟨kind, level, id, lsn, next, rows⟩ k).small := ⟨by show 0 ≤ 65535; omega, by show 0 ≤ 65535; omega, fun r hr => by cases hr⟩
    have C1 := Lib.hid fun W (hW : TextsAt W (.slice A n cp) rows) => opApply_any ⟨kind, level, id, lsn, next, rows⟩ (oCut ⟨kind, level, id, lsn, next, rows⟩ k) (.slice A n cp) (.slice none 0 0) 3 W hW (TextsAt.nil _) HP.out wf1 sm1 (by decide) (by show weightB rows ≤ 1000000; omega) (by show rows.length ≤ 900000; omega)
    rw [moves_cut hmay hk1] at C1
    unfold pgV odV oCut at C1
    simp only at C1
    have HMAY := Lib.hid hmay
    have HK1 := Lib.hid hk1
    have HW4 := Lib.hid w484
    have HRL := Lib.hid hrl
    have G2 := Lib.hid g2
    clear hk wf1 sm1 hq1 hq2 hq4 hq5 g1 g2 g3 g4 hbb HBIG HMY hmay hk1 w484 n121 hrl
    obtain ⟨x0, x1, x2, x3, x4, x5, x6⟩ := P1.out.cells
    go_upto_region 4 with fail
    clear c1 c2 c3 c4
    obtain ⟨nr, hnr⟩ : ∃ z, z = (rows.drop k).length := ⟨_, rfl⟩
    have hnr2 : nr = n - k := by rw [hnr, List.length_drop, HN.out]
    have HNR := Lib.hid hnr
    have HNR2 := Lib.hid hnr2
    have ta := (T1.out.below (alloc_below w1 (.cells #[] 9))).backR k hkn
    obtain ⟨tA, htA⟩ : ∃ x, (if cp = k then A else Option.map (fun x => x.add k) A) = x := ⟨_, rfl⟩
    rw [htA] at ta
    have TA := Lib.hid ta
    clear ta
    clear hnr hnr2
    go_cut [8] (fun s8 w' => ∃ (rb : Option Addr) (rc : Nat), s8 = .slice rb nr rc ∧ rc ≤ maxLen ∧ Hid (TextsAt w' (.slice rb nr rc) (rows.drop k)) ∧ Hid (Below w1.heap.size w1 w'))
    case first =>
      go_wp2_with (at_builtin; refine wpList_append_any _ rfl _ _ 24 rfl w1.heap.size 9 i0 (.string ⟨#[]⟩) 1 16 Try.underlying24 HI.out HI0.out HI1.out HI2.out rfl (by decide) (.slice (some ⟨w1.heap.size, 0, none⟩) 0 0) 0 [] (by rfl) (World.ownsRow_made w1 #[] 0 (Nat.le_refl _) (by unfold maxLen; omega) rfl) (.slice tA (n - k) (cp - k)) (n - k) (strs (rows.drop k)) (by rfl) TA.out (strs_oneCell _) (by unfold maxLen; omega) (by omega) (by simp) ?_; intro v2 w2 hown2 hgrow2; simp only [Nat.zero_add, List.nil_append] at hown2; have hb := (alloc_below w1 (.cells #[] 9)).grown hgrow2 (by simp) (fun j hj => by simp [Value.ownBlock] at hj; omega); clear hgrow2; rw [← HNR2.out] at hown2; obtain ⟨rb, rc, hv2, _, hrc, _⟩ := own_form hown2; subst hv2; have V2 := Lib.hid (texts_own hown2).1; have hb := Lib.hid hb; clear hown2)
      all_goals (try go_wp2_with fail)
      all_goals (go_meet; exact ⟨rb, rc, rfl, hrc, V2, hb⟩)
    case rest =>
    obtain ⟨rb, rc, rfl, hrc, V2, hb2⟩ := hcut
    generalize wc = w2 at *
    have hb := hb2.out
    clear TA hb2 htA
    clear x0 x1 x2 x3 x4 x5 x6
    have B2 := Lib.hid (below_then B1.out hb)
    have T2 := Lib.hid (T1.out.below hb)
    have P2 := Lib.hid (P1.out.below hb)
    clear hb B1 T1 P1
    have C2 : Hid (∀ W, TextsAt W (.slice rb nr rc) (rows.drop k) → Calls Try.prog 28 #[pgV pg9 (.slice none 0 0), .int .u64 (3 : Nat), .slice (some ⟨W.heap.size, 0, none⟩) 2 2] (W.alloc (.cells #[.int .u8 1, .int .u32 9, .int .i64 0, .int .i64 0, .string ⟨#[]⟩, .slice none 0 0, .int .u8 kind, .int .u8 0, .int .u32 0, .int .u8 6, .int .u32 9, .int .i64 0, .int .i64 0, .string ⟨#[]⟩, .slice rb nr rc, .int .u8 0, .int .u8 0, .int .u32 0] 26)) (PgPost W (⟨kind, 0, 9, 3, 0, rows.drop k⟩, 0))) := Lib.hid fun W hW => by
      have hlen := weight_drop rows k
      have hw4 := HW4.out
      have hwe := weightB_eq (rows.drop k)
      have hqk := HP.out.1
      have hq9 := HP.out.2.2.1
      have h := opRedo_any pg9 (.slice none 0 0) (.slice (some ⟨W.heap.size, 0, none⟩) 2 2) 3 [⟨oForm9 ⟨kind, level, id, lsn, next, rows⟩, none, 0⟩, ⟨oFill 9 (rows.drop k), rb, rc⟩] (W.alloc (.cells #[.int .u8 1, .int .u32 9, .int .i64 0, .int .i64 0, .string ⟨#[]⟩, .slice none 0 0, .int .u8 kind, .int .u8 0, .int .u32 0, .int .u8 6, .int .u32 9, .int .i64 0, .int .i64 0, .string ⟨#[]⟩, .slice rb nr rc, .int .u8 0, .int .u8 0, .int .u32 0] 26)) (TextsAt.nil _) ⟨by decide, by decide, by decide, by decide, by decide⟩ (by decide) (show weightB [] ≤ 1000000 by decide) (ops_lit2 W _ _ 2 rfl (by rw [HNR.out]; rfl) (fun e he => by
          rcases List.mem_cons.1 he with rfl | he
          · exact TextsAt.nil _
          · rw [List.mem_singleton.1 he]; unfold Ov.sv; simp only [oFill]; rw [← HNR.out]; exact hW) (show 2 ≤ 1000000 by omega)) (fun e he => by
          rcases List.mem_cons.1 he with rfl | he
          · exact od_ok (by show 1 < 256; omega) (by show 9 < 256 ^ 4; decide) ⟨by show (0 : Int) ≤ 0; omega, by show (0 : Int) ≤ 1000; omega⟩ rfl hqk (by show 0 < 256; omega) (by show 0 < 256 ^ 4; decide)
          · rw [List.mem_singleton.1 he]; exact od_ok (by show 6 < 256; omega) (by show 9 < 256 ^ 4; decide) ⟨by show (0 : Int) ≤ 0; omega, by show (0 : Int) ≤ 1000; omega⟩ rfl (by show 0 < 256; omega) (by show 0 < 256; omega) (by show 0 < 256 ^ 4; decide)) (fun e he => by
          rcases List.mem_cons.1 he with rfl | he
          · exact ⟨by show 0 ≤ 65535; omega, by show 0 ≤ 65535; omega, fun r hr => by cases hr⟩
          · rw [List.mem_singleton.1 he]
            exact ⟨by show 0 ≤ 65535; omega, by show (rows.drop k).length ≤ 65535; omega, fun r hr => by
              have := HRL.out r (List.mem_of_mem_drop hr)
              omega⟩)
      have e2 : ([⟨oForm9 ⟨kind, level, id, lsn, next, rows⟩, none, 0⟩, ⟨oFill 9 (rows.drop k), rb, rc⟩] : List Ov).map Ov.o = [oForm9 ⟨kind, level, id, lsn, next, rows⟩, oFill 9 (rows.drop k)] := rfl
      rw [e2, moves_redo (p := ⟨kind, level, id, lsn, next, rows⟩) (k := k) HMAY.out] at h
      exact h.mono fun e w' ⟨sv, h1, h2, h3⟩ => ⟨sv, h1, h2, below_then (alloc_below _ _) h3⟩
    unfold pgV pg9 at C2
    simp only at C2
    have FIL : Hid (∀ (o : Od), o = oFill id (rows.drop k) → o.wf ∧ o.small) := Lib.hid fun o ho => by
      have hlen := weight_drop rows k
      have hw4 := HW4.out
      have hwe := weightB_eq (rows.drop k)
      subst ho
      exact ⟨od_ok (by show 6 < 256; omega) HP.out.2.2.1 ⟨by show (0 : Int) ≤ 0; omega, by show (0 : Int) ≤ 1000; omega⟩ rfl (by show 0 < 256; omega) (by show 0 < 256; omega) (by show 0 < 256 ^ 4; decide), by show 0 ≤ 65535; omega, by show (rows.drop k).length ≤ 65535; omega, fun r hr => by
              have := HRL.out r (List.mem_of_mem_drop hr)
              omega⟩
    have Hn := HN
    obtain ⟨x0, x1, x2, x3, x4, x5, x6⟩ := P2.out.cells
    go_wp2_with fail
    clear x0 x1 x2 x3 x4 x5 x6
    refine (C1.out _ T2.out).mono ?_
    rintro e w3 ⟨sv3, rfl, G, hb⟩
    simp only at G
    obtain ⟨na, hna⟩ : ∃ z, z = (rows.take k).length := ⟨_, rfl⟩
    have Hna := Lib.hid hna
    clear hna
    have GA3 := Lib.hid G
    obtain ⟨A3, cp3, hv3, _, _, _, _⟩ := G
    rw [← Hna.out] at hv3
    subst hv3
    have B3 := Lib.hid (below_then B2.out hb)
    have T3 := Lib.hid (T2.out.below hb)
    have P3 := Lib.hid (P2.out.below hb)
    have V3 := Lib.hid (V2.out.below hb)
    clear hb B2 T2 P2 V2
    obtain ⟨x0, x1, x2, x3, x4, x5, x6⟩ := P3.out.cells
    unfold pgV
    simp only
    go_upto_region 6 with fail
    clear x0 x1 x2 x3 x4 x5 x6
    have BN := Lib.hid (alloc_below w3 (.cells #[.int .u8 kind, .int .u8 level, .int .u32 id, .int .u64 3, .int .u32 next, .slice A3 na cp3] 45))
    have XA4 := Lib.hid (PgBox.new w3 kind level id 3 next (.slice A3 na cp3))
    generalize w3.alloc (.cells #[.int .u8 kind, .int .u8 level, .int .u32 id, .int .u64 3, .int .u32 next, .slice A3 na cp3] 45) = w4 at *
    have hb := BN.out
    clear BN
    have B4 := Lib.hid (below_then B3.out hb)
    have T4 := Lib.hid (T3.out.below hb)
    have P4 := Lib.hid (P3.out.below hb)
    have V4 := Lib.hid (V3.out.below hb)
    have GA4 := Lib.hid (GA3.out.below hb)
    clear hb B3 T3 P3 V3 GA3
    have C3 := Lib.hid fun W (hA : TextsAt W (.slice A3 na cp3) (rows.take k)) (hV : TextsAt W (.slice rb nr rc) (rows.drop k)) => opApply_any ⟨kind, level, id, 3, next, rows.take k⟩ (oFill id (rows.drop k)) (.slice A3 na cp3) (.slice rb nr rc) lsn W hA hV ⟨HP.out.1, HP.out.2.1, HP.out.2.2.1, (by decide : (3 : Nat) < 256 ^ 8), HP.out.2.2.2.2⟩ (FIL.out _ rfl).1 (FIL.out _ rfl).2 HP.out.2.2.2.1 (by have := weight_take rows k; have := HW4.out; show weightB (rows.take k) ≤ 1000000; omega) (by have := weightB_eq (rows.take k); have := weight_take rows k; have := HW4.out; show (rows.take k).length ≤ 900000; omega)
    rw [moves_fill (p := ⟨kind, level, id, lsn, next, rows⟩) (k := k) HMAY.out] at C3
    unfold pgV odV oFill at C3
    simp only at C3
    clear C1 FIL
    obtain ⟨x0, x1, x2, x3, x4, x5, x6⟩ := P4.out.cells
    obtain ⟨y0, y1, y2, y3, y4, y5, y6⟩ := XA4.out.cells
    go_wp2_with fail
    clear x0 x1 x2 x3 x4 x5 x6 y0 y1 y2 y3 y4 y5 y6
    refine (C2.out _ V4.out).mono ?_
    rintro e w5 ⟨sv5, rfl, G, hb⟩
    simp only at G
    obtain ⟨nq, hnq⟩ : ∃ z, z = (rows.drop k).length := ⟨_, rfl⟩
    have Hnq := Lib.hid hnq
    clear hnq
    have GB5 := Lib.hid G
    obtain ⟨A5, cp5, hv5, _, _, _, _⟩ := G
    rw [← Hnq.out] at hv5
    subst hv5
    have B5 := Lib.hid (below_then B4.out hb)
    have T5 := Lib.hid (T4.out.below hb)
    have P5 := Lib.hid (P4.out.below hb)
    have V5 := Lib.hid (V4.out.below hb)
    have GA5 := Lib.hid (GA4.out.below hb)
    have XA5 := Lib.hid (XA4.out.below hb)
    clear hb B4 T4 P4 V4 GA4 XA4
    obtain ⟨x0, x1, x2, x3, x4, x5, x6⟩ := P5.out.cells
    obtain ⟨y0, y1, y2, y3, y4, y5, y6⟩ := XA5.out.cells
    unfold pgV
    simp only
    go_upto_region 7 with fail
    clear x0 x1 x2 x3 x4 x5 x6 y0 y1 y2 y3 y4 y5 y6
    have BN := Lib.hid (alloc_below w5 (.cells #[.int .u8 kind, .int .u8 0, .int .u32 9, .int .u64 3, .int .u32 0, .slice A5 nq cp5] 45))
    have XB6 := Lib.hid (PgBox.new w5 kind 0 9 3 0 (.slice A5 nq cp5))
    generalize w5.alloc (.cells #[.int .u8 kind, .int .u8 0, .int .u32 9, .int .u64 3, .int .u32 0, .slice A5 nq cp5] 45) = w6 at *
    have hb := BN.out
    clear BN
    have B6 := Lib.hid (below_then B5.out hb)
    have T6 := Lib.hid (T5.out.below hb)
    have P6 := Lib.hid (P5.out.below hb)
    have V6 := Lib.hid (V5.out.below hb)
    have GA6 := Lib.hid (GA5.out.below hb)
    have XA6 := Lib.hid (XA5.out.below hb)
    have GB6 := Lib.hid (GB5.out.below hb)
    clear hb B5 T5 P5 V5 GA5 XA5 GB5
    obtain ⟨x0, x1, x2, x3, x4, x5, x6⟩ := P6.out.cells
    obtain ⟨y0, y1, y2, y3, y4, y5, y6⟩ := XA6.out.cells
    obtain ⟨z0, z1, z2, z3, z4, z5, z6⟩ := XB6.out.cells
    go_wp2_with fail
    clear x0 x1 x2 x3 x4 x5 x6 y0 y1 y2 y3 y4 y5 y6 z0 z1 z2 z3 z4 z5 z6
    refine (C3.out _ GA6.out V6.out).mono ?_
    rintro e w7 ⟨sv7, rfl, G, hb⟩
    simp only at G
    have GC7 := Lib.hid G
    obtain ⟨A7, cp7, hv7, _, _, _, _⟩ := G
    rw [← Hn.out] at hv7
    subst hv7
    have B7 := Lib.hid (below_then B6.out hb)
    have T7 := Lib.hid (T6.out.below hb)
    have P7 := Lib.hid (P6.out.below hb)
    have V7 := Lib.hid (V6.out.below hb)
    have GA7 := Lib.hid (GA6.out.below hb)
    have XA7 := Lib.hid (XA6.out.below hb)
    have GB7 := Lib.hid (GB6.out.below hb)
    have XB7 := Lib.hid (XB6.out.below hb)
    clear hb B6 T6 P6 V6 GA6 XA6 GB6 XB6
    obtain ⟨x0, x1, x2, x3, x4, x5, x6⟩ := P7.out.cells
    obtain ⟨y0, y1, y2, y3, y4, y5, y6⟩ := XA7.out.cells
    obtain ⟨z0, z1, z2, z3, z4, z5, z6⟩ := XB7.out.cells
    unfold pgV
    simp only
    go_upto_region 8 with fail
    clear x0 x1 x2 x3 x4 x5 x6 y0 y1 y2 y3 y4 y5 y6 z0 z1 z2 z3 z4 z5 z6
    have BN := Lib.hid (alloc_below w7 (.cells #[.int .u8 kind, .int .u8 level, .int .u32 id, .int .u64 lsn, .int .u32 next, .slice A7 n cp7] 45))
    have XC8 := Lib.hid (PgBox.new w7 kind level id lsn next (.slice A7 n cp7))
    generalize w7.alloc (.cells #[.int .u8 kind, .int .u8 level, .int .u32 id, .int .u64 lsn, .int .u32 next, .slice A7 n cp7] 45) = w8 at *
    have hb := BN.out
    clear BN
    have B8 := Lib.hid (below_then B7.out hb)
    have T8 := Lib.hid (T7.out.below hb)
    have P8 := Lib.hid (P7.out.below hb)
    have V8 := Lib.hid (V7.out.below hb)
    have GA8 := Lib.hid (GA7.out.below hb)
    have XA8 := Lib.hid (XA7.out.below hb)
    have GB8 := Lib.hid (GB7.out.below hb)
    have XB8 := Lib.hid (XB7.out.below hb)
    have GC8 := Lib.hid (GC7.out.below hb)
    clear hb B7 T7 P7 V7 GA7 XA7 GB7 XB7 GC7
    obtain ⟨x0, x1, x2, x3, x4, x5, x6⟩ := P8.out.cells
    obtain ⟨y0, y1, y2, y3, y4, y5, y6⟩ := XA8.out.cells
    obtain ⟨z0, z1, z2, z3, z4, z5, z6⟩ := XB8.out.cells
    obtain ⟨u0, u1, u2, u3, u4, u5, u6⟩ := XC8.out.cells
    have ex1 := ext_cell x1 (cell_lt x1)
    have ex2 := ext_cell x2 (cell_lt x2)
    have ex3 := ext_cell x3 (cell_lt x3)
    have ex4 := ext_cell x4 (cell_lt x4)
    have ex5 := ext_cell x5 (cell_lt x5)
    have ex6 := ext_cell x6 (cell_lt x6)
    have ey1 := ext_cell y1 (cell_lt y1)
    have ey2 := ext_cell y2 (cell_lt y2)
    have ey3 := ext_cell y3 (cell_lt y3)
    have ey4 := ext_cell y4 (cell_lt y4)
    have ey5 := ext_cell y5 (cell_lt y5)
    have ey6 := ext_cell y6 (cell_lt y6)
    have ez1 := ext_cell z1 (cell_lt z1)
    have ez2 := ext_cell z2 (cell_lt z2)
    have ez3 := ext_cell z3 (cell_lt z3)
    have ez4 := ext_cell z4 (cell_lt z4)
    have ez5 := ext_cell z5 (cell_lt z5)
    have ez6 := ext_cell z6 (cell_lt z6)
    have eu1 := ext_cell u1 (cell_lt u1)
    have eu2 := ext_cell u2 (cell_lt u2)
    have eu3 := ext_cell u3 (cell_lt u3)
    have eu4 := ext_cell u4 (cell_lt u4)
    have eu5 := ext_cell u5 (cell_lt u5)
    have eu6 := ext_cell u6 (cell_lt u6)
    clear x0 x1 x2 x3 x4 x5 x6 y0 y1 y2 y3 y4 y5 y6 z0 z1 z2 z3 z4 z5 z6 u0 u1 u2 u3 u4 u5 u6
    have X1 := Lib.hid fun (y : Ext w8.heap.size w8) => refTexts_any (.slice A3 na cp3) (.slice A k cp) (rows.take k) (rows.take k) y.val (GA8.out.below y.below) ((T8.out.below y.below).take k cp hkn (by omega) (Nat.le_refl _))
    rw [decide_eq_true (rfl : rows.take k = rows.take k)] at X1
    have X2 := Lib.hid fun (y : Ext w8.heap.size w8) => refTexts_any (.slice A5 nq cp5) (.slice rb nr rc) (rows.drop k) (rows.drop k) y.val (GB8.out.below y.below) (V8.out.below y.below)
    rw [decide_eq_true (rfl : rows.drop k = rows.drop k)] at X2
    have X3 := Lib.hid fun (y : Ext w8.heap.size w8) => refSame06_eq ⟨kind, level, id, lsn, next, rows⟩ (.slice A7 n cp7) (.slice A n cp) y.val (GC8.out.below y.below) (T8.out.below y.below)
    unfold pgV at X3
    simp only at X3
    have e0 : ((0 : Int) != 0) = false := rfl
    refine wp_region_ext w8.heap.size (by kernel_rfl) (by kernel_rfl) ?_
    repeat (go_big_quiet_step (first
      | (go_at_call_of 31 (Value.slice A3 na cp3); exact ext_call _ (Nat.le_refl _) (X1.out _))
      | (go_at_call_of 31 (Value.slice A5 nq cp5); exact ext_call _ (Nat.le_refl _) (X2.out _))
      | (go_at_call 30; exact ext_call _ (Nat.le_refl _) (X3.out _))))
    refine wpQuiet_nil ?_
    rintro _ ⟨X, rfl⟩
    have hbX := Lib.hid X.below
    generalize X.val = w9 at *
    have hb := hbX.out
    clear ex1 ex2 ex3 ex4 ex5 ex6 ey1 ey2 ey3 ey4 ey5 ey6 ez1 ez2 ez3 ez4 ez5 ez6 eu1 eu2 eu3 eu4 eu5 eu6 X1 X2 X3 C2 C3 hbX
    have B9 := Lib.hid (below_then B8.out hb)
    have T9 := Lib.hid (T8.out.below hb)
    have P9 := Lib.hid (P8.out.below hb)
    have V9 := Lib.hid (V8.out.below hb)
    have GA9 := Lib.hid (GA8.out.below hb)
    have XA9 := Lib.hid (XA8.out.below hb)
    have GB9 := Lib.hid (GB8.out.below hb)
    have XB9 := Lib.hid (XB8.out.below hb)
    have GC9 := Lib.hid (GC8.out.below hb)
    have XC9 := Lib.hid (XC8.out.below hb)
    clear hb B8 T8 P8 V8 GA8 XA8 GB8 XB8 GC8 XC8
    clear GA9
    clear GB9
    clear GC9
    clear XA9
    clear XB9
    clear XC9
    clear V9
    have hpt : text.length ≤ 1024 := by have := G2.out; omega
    have WFO : Hid (∀ (o : Od), (o = oPutK ⟨kind, level, id, lsn, next, rows⟩ k text ∨ o = oSetK ⟨kind, level, id, lsn, next, rows⟩ k text ∨ o = oDropK ⟨kind, level, id, lsn, next, rows⟩ k ∨ o = oSetK ⟨kind, level, id, lsn, next, rows⟩ k (rows.getD k [])) → o.wf ∧ o.small) := Lib.hid fun o ho => by
      have hg : (rows.getD k []).length ≤ 65535 := by
        rw [List.getD_eq_getElem?_getD]
        by_cases hk9 : k < rows.length
        · rw [List.getElem?_eq_getElem hk9]
          have := HRL.out _ (List.getElem_mem hk9)
          simp only [Option.getD_some]
          omega
        · rw [List.getElem?_eq_none (by omega)]
          exact Nat.zero_le _
      have q3 := HP.out.2.2.1
      rcases ho with rfl | rfl | rfl | rfl
      · exact ⟨od_ok (by show 2 < 256; omega) q3 ⟨by show (0 : Int) ≤ (k : Int); omega, by show (k : Int) ≤ 1000; omega⟩ rfl (by show 0 < 256; omega) (by show 0 < 256; omega) (by show 0 < 256 ^ 4; decide), by show text.length ≤ 65535; omega, by show 0 ≤ 65535; omega, fun r hr => by cases hr⟩
      · exact ⟨od_ok (by show 3 < 256; omega) q3 ⟨by show (0 : Int) ≤ (k : Int); omega, by show (k : Int) ≤ 1000; omega⟩ rfl (by show 0 < 256; omega) (by show 0 < 256; omega) (by show 0 < 256 ^ 4; decide), by show text.length ≤ 65535; omega, by show 0 ≤ 65535; omega, fun r hr => by cases hr⟩
      · exact ⟨od_ok (by show 4 < 256; omega) q3 ⟨by show (0 : Int) ≤ (k : Int); omega, by show (k : Int) ≤ 1000; omega⟩ rfl (by show 0 < 256; omega) (by show 0 < 256; omega) (by show 0 < 256 ^ 4; decide), by show 0 ≤ 65535; omega, by show 0 ≤ 65535; omega, fun r hr => by cases hr⟩
      · exact ⟨od_ok (by show 3 < 256; omega) q3 ⟨by show (0 : Int) ≤ (k : Int); omega, by show (k : Int) ≤ 1000; omega⟩ rfl (by show 0 < 256; omega) (by show 0 < 256; omega) (by show 0 < 256 ^ 4; decide), by show (rows.getD k []).length ≤ 65535; omega, by show 0 ≤ 65535; omega, fun r hr => by cases hr⟩
    have WTS : Hid (weightB rows ≤ 1000000 ∧ rows.length ≤ 900000) := Lib.hid ⟨by have := HW4.out; omega, by rw [← HN.out]; omega⟩
    have C4 := Lib.hid fun W (hW : TextsAt W (.slice A n cp) rows) => opApply_any ⟨kind, level, id, lsn, next, rows⟩ (oPutK ⟨kind, level, id, lsn, next, rows⟩ k text) (.slice A n cp) (.slice none 0 0) 4 W hW (TextsAt.nil _) HP.out (WFO.out _ (.inl rfl)).1 (WFO.out _ (.inl rfl)).2 (by decide) WTS.out.1 WTS.out.2
    obtain ⟨R4, hR4⟩ : ∃ R, R = applyB ⟨kind, level, id, lsn, next, rows⟩ (oPutK ⟨kind, level, id, lsn, next, rows⟩ k text) 4 := ⟨_, rfl⟩
    rw [← hR4] at C4
    have HR4 := Lib.hid hR4
    clear hR4
    obtain ⟨⟨ma, mb, mc, md, me, rowsM⟩, er⟩ := R4
    unfold pgV odV oPutK at C4
    simp only at C4
    obtain ⟨x0, x1, x2, x3, x4, x5, x6⟩ := P9.out.cells
    go_wp2_with fail
    clear x0 x1 x2 x3 x4 x5 x6
    refine (C4.out _ T9.out).mono ?_
    rintro e w10 ⟨sv10, rfl, G, hb⟩
    simp only at G
    obtain ⟨nm, hnm⟩ : ∃ z, z = rowsM.length := ⟨_, rfl⟩
    have Hnm := Lib.hid hnm
    clear hnm
    have GD10 := Lib.hid G
    obtain ⟨A10, cp10, hv10, _, _, _, _⟩ := G
    rw [← Hnm.out] at hv10
    subst hv10
    have B10 := Lib.hid (below_then B9.out hb)
    have T10 := Lib.hid (T9.out.below hb)
    have P10 := Lib.hid (P9.out.below hb)
    clear hb B9 T9 P9
    obtain ⟨x0, x1, x2, x3, x4, x5, x6⟩ := P10.out.cells
    unfold pgV
    simp only
    go_upto_region 11 with fail
    clear x0 x1 x2 x3 x4 x5 x6
    have BN := Lib.hid (alloc_below w10 (.cells #[.int .u8 ma, .int .u8 mb, .int .u32 mc, .int .u64 md, .int .u32 me, .slice A10 nm cp10] 45))
    have XD11 := Lib.hid (PgBox.new w10 ma mb mc md me (.slice A10 nm cp10))
    generalize w10.alloc (.cells #[.int .u8 ma, .int .u8 mb, .int .u32 mc, .int .u64 md, .int .u32 me, .slice A10 nm cp10] 45) = w11 at *
    have hb := BN.out
    clear BN
    have B11 := Lib.hid (below_then B10.out hb)
    have T11 := Lib.hid (T10.out.below hb)
    have P11 := Lib.hid (P10.out.below hb)
    have GD11 := Lib.hid (GD10.out.below hb)
    clear hb B10 T10 P10 GD10
    clear C4
    go_upto_if 140 with fail
    go_cut [18] (fun s18 w' => True ∧ Hid (Below w.heap.size w w') ∧ Hid (TextsAt w' (.slice A n cp) rows) ∧ Hid (PgBox w' w.heap.size kind level id lsn next (.slice A n cp)))
    case first =>
      by_cases her : er = 0
      · subst her
        have r0 : ((0 : Int) == 0) = true := rfl
        have hd := moves_drop (p := ⟨kind, level, id, lsn, next, rows⟩) (k := k) (t := text) HMAY.out HK1.out HR4.out.symm
        have hok := applyB_ok (p := ⟨kind, level, id, lsn, next, rows⟩) (o := oPutK ⟨kind, level, id, lsn, next, rows⟩ k text) (lsn := 4) HP.out (WFO.out _ (.inl rfl)).1 (by decide) (by rw [← HR4.out])
        rw [← HR4.out] at hok
        obtain ⟨wfM, mayM, hok3⟩ := hok
        have hmw := may_weight mayM
        simp only at hmw
        have C5 := Lib.hid fun W (hW : TextsAt W (.slice A10 nm cp10) rowsM) => opApply_any ⟨ma, mb, mc, md, me, rowsM⟩ (oDropK ⟨kind, level, id, lsn, next, rows⟩ k) (.slice A10 nm cp10) (.slice none 0 0) lsn W hW (TextsAt.nil _) wfM (WFO.out _ (.inr (.inr (.inl rfl)))).1 (WFO.out _ (.inr (.inr (.inl rfl)))).2 HP.out.2.2.2.1 (by have := hmw.1; show weightB rowsM ≤ 1000000; omega) (by have := hmw.2.1; show rowsM.length ≤ 900000; omega)
        rw [hd] at C5
        unfold pgV odV oDropK at C5
        simp only at C5
        clear hd wfM mayM hok3 hmw HR4
        obtain ⟨x0, x1, x2, x3, x4, x5, x6⟩ := P11.out.cells
        obtain ⟨y0, y1, y2, y3, y4, y5, y6⟩ := XD11.out.cells
        go_wp2_with fail
        clear x0 x1 x2 x3 x4 x5 x6 y0 y1 y2 y3 y4 y5 y6
        refine (C5.out _ GD11.out).mono ?_
        rintro e w12 ⟨sv12, rfl, G, hb⟩
        simp only at G
        have GE12 := Lib.hid G
        obtain ⟨A12, cp12, hv12, _, _, _, _⟩ := G
        rw [← Hn.out] at hv12
        subst hv12
        have B12 := Lib.hid (below_then B11.out hb)
        have T12 := Lib.hid (T11.out.below hb)
        have P12 := Lib.hid (P11.out.below hb)
        have GD12 := Lib.hid (GD11.out.below hb)
        have XD12 := Lib.hid (XD11.out.below hb)
        clear hb B11 T11 P11 GD11 XD11
        obtain ⟨x0, x1, x2, x3, x4, x5, x6⟩ := P12.out.cells
        obtain ⟨y0, y1, y2, y3, y4, y5, y6⟩ := XD12.out.cells
        unfold pgV
        simp only
        go_upto_region 13 with fail
        clear x0 x1 x2 x3 x4 x5 x6 y0 y1 y2 y3 y4 y5 y6
        have BN := Lib.hid (alloc_below w12 (.cells #[.int .u8 kind, .int .u8 level, .int .u32 id, .int .u64 lsn, .int .u32 next, .slice A12 n cp12] 45))
        have XE13 := Lib.hid (PgBox.new w12 kind level id lsn next (.slice A12 n cp12))
        generalize w12.alloc (.cells #[.int .u8 kind, .int .u8 level, .int .u32 id, .int .u64 lsn, .int .u32 next, .slice A12 n cp12] 45) = w13 at *
        have hb := BN.out
        clear BN
        have B13 := Lib.hid (below_then B12.out hb)
        have T13 := Lib.hid (T12.out.below hb)
        have P13 := Lib.hid (P12.out.below hb)
        have GD13 := Lib.hid (GD12.out.below hb)
        have XD13 := Lib.hid (XD12.out.below hb)
        have GE13 := Lib.hid (GE12.out.below hb)
        clear hb B12 T12 P12 GD12 XD12 GE12
        have e0 : ((0 : Int) != 0) = false := rfl
        obtain ⟨x0, x1, x2, x3, x4, x5, x6⟩ := P13.out.cells
        obtain ⟨y0, y1, y2, y3, y4, y5, y6⟩ := XD13.out.cells
        obtain ⟨z0, z1, z2, z3, z4, z5, z6⟩ := XE13.out.cells
        go_wp2_with fail
        clear x0 x1 x2 x3 x4 x5 x6 y0 y1 y2 y3 y4 y5 y6 z0 z1 z2 z3 z4 z5 z6
        refine (refSame06_eq ⟨kind, level, id, lsn, next, rows⟩ (.slice A12 n cp12) (.slice A n cp) _ GE13.out T13.out).mono ?_
        rintro e w14 ⟨rfl, hb⟩
        have B14 := Lib.hid (below_then B13.out hb)
        have T14 := Lib.hid (T13.out.below hb)
        have P14 := Lib.hid (P13.out.below hb)
        have GD14 := Lib.hid (GD13.out.below hb)
        have XD14 := Lib.hid (XD13.out.below hb)
        have GE14 := Lib.hid (GE13.out.below hb)
        have XE14 := Lib.hid (XE13.out.below hb)
        clear hb B13 T13 P13 GD13 XD13 GE13 XE13
        obtain ⟨x0, x1, x2, x3, x4, x5, x6⟩ := P14.out.cells
        obtain ⟨y0, y1, y2, y3, y4, y5, y6⟩ := XD14.out.cells
        obtain ⟨z0, z1, z2, z3, z4, z5, z6⟩ := XE14.out.cells
        go_wp2_with fail
        go_meet
        exact ⟨trivial, B14, T14, P14⟩
      · have r0 : (er == 0) = false := by simp; omega
        clear her
        go_wp2_with fail
        go_meet
        exact ⟨trivial, B11, T11, P11⟩
    case rest =>
    obtain ⟨_, B12, T12, P12⟩ := hcut
    generalize wc = w12 at *
    clear B11 T11 P11 GD11 XD11 HR4
    by_cases hkk : k = n
    · have hki : ((k : Int) == (n : Int)) = true := by simp; omega
      obtain ⟨x0, x1, x2, x3, x4, x5, x6⟩ := P12.out.cells
      go_wp2_with fail
      refine (aliveEnd.out _ B12.out).mono ?_
      rintro e wa ⟨rfl, hba⟩
      have Ba := Lib.hid hba
      clear hba
      go_wp2_with fail
      go_ret
      exact ⟨rfl, Ba.out⟩
    have hki : ((k : Int) == (n : Int)) = false := by simp; omega
    have hkl : k < rows.length := by rw [← HN.out]; omega
    have HKL := Lib.hid hkl
    have hk3 : (k : Int) < (n : Int) := by omega
    have C6 := Lib.hid fun W (hW : TextsAt W (.slice A n cp) rows) => opApply_any ⟨kind, level, id, lsn, next, rows⟩ (oSetK ⟨kind, level, id, lsn, next, rows⟩ k text) (.slice A n cp) (.slice none 0 0) 4 W hW (TextsAt.nil _) HP.out (WFO.out _ (.inr (.inl rfl))).1 (WFO.out _ (.inr (.inl rfl))).2 (by decide) WTS.out.1 WTS.out.2
    obtain ⟨R6, hR6⟩ : ∃ R, R = applyB ⟨kind, level, id, lsn, next, rows⟩ (oSetK ⟨kind, level, id, lsn, next, rows⟩ k text) 4 := ⟨_, rfl⟩
    rw [← hR6] at C6
    have HR6 := Lib.hid hR6
    clear hR6 hkl hkk
    obtain ⟨⟨sa, sb, sc, sd, se, rowsS⟩, es⟩ := R6
    unfold pgV odV oSetK at C6
    simp only at C6
    obtain ⟨x0, x1, x2, x3, x4, x5, x6⟩ := P12.out.cells
    go_wp2_with fail
    clear x0 x1 x2 x3 x4 x5 x6
    refine (C6.out _ T12.out).mono ?_
    rintro e w13 ⟨sv13, rfl, G, hb⟩
    simp only at G
    obtain ⟨ns, hns⟩ : ∃ z, z = rowsS.length := ⟨_, rfl⟩
    have Hns := Lib.hid hns
    clear hns
    have GS13 := Lib.hid G
    obtain ⟨A13, cp13, hv13, _, _, _, _⟩ := G
    rw [← Hns.out] at hv13
    subst hv13
    have B13 := Lib.hid (below_then B12.out hb)
    have T13 := Lib.hid (T12.out.below hb)
    have P13 := Lib.hid (P12.out.below hb)
    clear hb B12 T12 P12
    obtain ⟨x0, x1, x2, x3, x4, x5, x6⟩ := P13.out.cells
    unfold pgV
    simp only
    go_upto_region 18 with fail
    clear x0 x1 x2 x3 x4 x5 x6
    have BN := Lib.hid (alloc_below w13 (.cells #[.int .u8 sa, .int .u8 sb, .int .u32 sc, .int .u64 sd, .int .u32 se, .slice A13 ns cp13] 45))
    have XS14 := Lib.hid (PgBox.new w13 sa sb sc sd se (.slice A13 ns cp13))
    generalize w13.alloc (.cells #[.int .u8 sa, .int .u8 sb, .int .u32 sc, .int .u64 sd, .int .u32 se, .slice A13 ns cp13] 45) = w14 at *
    have hb := BN.out
    clear BN
    have B14 := Lib.hid (below_then B13.out hb)
    have T14 := Lib.hid (T13.out.below hb)
    have P14 := Lib.hid (P13.out.below hb)
    have GS14 := Lib.hid (GS13.out.below hb)
    clear hb B13 T13 P13 GS13
    clear C6
    by_cases hes : ¬ es = 0
    · have h0 : (es != 0) = true := by simp; omega
      clear hes
      obtain ⟨x0, x1, x2, x3, x4, x5, x6⟩ := P14.out.cells
      obtain ⟨y0, y1, y2, y3, y4, y5, y6⟩ := XS14.out.cells
      go_wp2_with fail
      refine (aliveEnd.out _ B14.out).mono ?_
      rintro e wa ⟨rfl, hba⟩
      have Ba := Lib.hid hba
      clear hba
      go_wp2_with fail
      go_ret
      exact ⟨rfl, Ba.out⟩
    have hes0 : es = 0 := by omega
    subst hes0
    have e0 : ((0 : Int) != 0) = false := rfl
    have hd := moves_set (p := ⟨kind, level, id, lsn, next, rows⟩) (k := k) (t := text) HMAY.out HKL.out HR6.out.symm
    have hok := applyB_ok (p := ⟨kind, level, id, lsn, next, rows⟩) (o := oSetK ⟨kind, level, id, lsn, next, rows⟩ k text) (lsn := 4) HP.out (WFO.out _ (.inr (.inl rfl))).1 (by decide) (by rw [← HR6.out])
    rw [← HR6.out] at hok
    obtain ⟨wfM, mayM, hok3⟩ := hok
    have hmw := may_weight mayM
    simp only at hmw
    have C7 := Lib.hid fun W (hW : TextsAt W (.slice A13 ns cp13) rowsS) => opApply_any ⟨sa, sb, sc, sd, se, rowsS⟩ (oSetK ⟨kind, level, id, lsn, next, rows⟩ k (rows.getD k [])) (.slice A13 ns cp13) (.slice none 0 0) lsn W hW (TextsAt.nil _) wfM (WFO.out _ (.inr (.inr (.inr rfl)))).1 (WFO.out _ (.inr (.inr (.inr rfl)))).2 HP.out.2.2.2.1 (by have := hmw.1; show weightB rowsS ≤ 1000000; omega) (by have := hmw.2.1; show rowsS.length ≤ 900000; omega)
    rw [hd] at C7
    have htk : (rows.getD k []) = rows[k]'HKL.out := by rw [List.getD_eq_getElem?_getD, List.getElem?_eq_getElem HKL.out]; rfl
    obtain ⟨vb, vo, hA9, hvb, hvc⟩ : ∃ vb vo, A = some ⟨vb, vo, none⟩ ∧ vb < w14.heap.size ∧ w14.cell? ⟨vb, vo + k, none⟩ = some (.string ⟨(rows.getD k []).toArray⟩) := by
      obtain ⟨A', cp', e1, h2, h3, h4, h5⟩ := T14.out
      injection e1 with e1 e2 e3
      obtain ⟨b, o, q1, q2, q3⟩ := h5 (by have := HKL.out; omega)
      exact ⟨b, o, by rw [e1, q1], q2, by rw [htk]; exact q3 k HKL.out⟩
    subst hA9
    obtain ⟨tk, htk2⟩ : ∃ t, t = rows.getD k [] := ⟨_, rfl⟩
    rw [← htk2] at C7 hvc
    unfold pgV odV oSetK at C7
    simp only at C7
    clear hd wfM mayM hok3 hmw htk htk2 HR6
    obtain ⟨x0, x1, x2, x3, x4, x5, x6⟩ := P14.out.cells
    obtain ⟨y0, y1, y2, y3, y4, y5, y6⟩ := XS14.out.cells
    obtain ⟨gS, hgS⟩ : ∃ x, x = w13.heap.size := ⟨_, rfl⟩
    rw [← hgS] at y0 y1 y2 y3 y4 y5 y6 XS14 ⊢
    have hvb5 : vb < w14.heap.size := hvb
    have hw5 : w.heap.size < w14.heap.size := x0
    have hs5 : gS < w14.heap.size := y0
    have RBX : Hid (∀ W', Below w14.heap.size w14 W' → Calls Try.prog 26 #[.agg #[.int .u8 sa, .int .u8 sb, .int .u32 sc, .int .u64 sd, .int .u32 se, .slice A13 ns cp13], .agg #[.int .u8 (3 : Nat), .int .u32 id, .int .i64 k, .int .i64 0, .string ⟨tk.toArray⟩, .slice none 0 0, .int .u8 (0 : Nat), .int .u8 (0 : Nat), .int .u32 (0 : Nat)], .int .u64 lsn] W' fun e w' => ∃ da dc, e = .returned (.tuple #[.agg #[.int .u8 kind, .int .u8 level, .int .u32 id, .int .u64 lsn, .int .u32 next, .slice da n dc], .int .i64 0]) ∧ Hid (TextsAt w' (.slice da n dc) rows) ∧ Below w14.heap.size w14 w' ∧ Below W'.heap.size W' w') := Lib.hid fun W' hW => (C7.out W' (GS14.out.below hW)).mono (by
      rintro e w' ⟨sv', rfl, ht', hb'⟩
      have ht2 := ht'
      obtain ⟨da, dc, rfl, hd3⟩ := ht2
      simp only at ht'
      exact ⟨da, dc, by unfold pgV; rw [HN.out], by rw [HN.out]; exact Lib.hid ht', below_then hW hb', hb'⟩)
    have hA := Lib.hid ((Below.refl w14.heap.size w14).drew)
    have hB := Lib.hid (hA.out.alloc hA.out.size (.cells #[.int .u8 0, .int .u8 0, .int .u32 0, .int .u64 0, .int .u32 0, .slice none 0 0] 45))
    clear C7 hgS
    go_upto_region 20 with fail
    go_cut [21, 22] (fun s21 s22 w' => ∃ (gq : Nat) (da : Option Addr) (dc : Nat), s21 = .pointer (some ⟨gq, 0, none⟩) ∧ s22 = .int .i64 0 ∧ Hid (PgBox w' gq kind level id lsn next (.slice da n dc)) ∧ Hid (TextsAt w' (.slice da n dc) rows) ∧ Hid (Below w14.heap.size w14 w'))
    case first =>
      have KS := Lib.hid fun W W' (hb : Below W.heap.size W W') (h : W.cell? ⟨vb, vo + k, none⟩ = some (.string ⟨tk.toArray⟩) ∧ W.cell? ⟨w.heap.size, 2, none⟩ = some (.int .u32 id) ∧ W.cell? ⟨w.heap.size, 3, none⟩ = some (.int .u64 lsn) ∧ W.cell? ⟨w.heap.size, 5, none⟩ = some (.slice (some ⟨vb, vo, none⟩) n cp) ∧ W.cell? ⟨gS, 0, none⟩ = some (.int .u8 sa) ∧ W.cell? ⟨gS, 1, none⟩ = some (.int .u8 sb) ∧ W.cell? ⟨gS, 2, none⟩ = some (.int .u32 sc) ∧ W.cell? ⟨gS, 3, none⟩ = some (.int .u64 sd) ∧ W.cell? ⟨gS, 4, none⟩ = some (.int .u32 se) ∧ W.cell? ⟨gS, 5, none⟩ = some (.slice A13 ns cp13)) => (⟨keep_cell hb h.1, keep_cell hb h.2.1, keep_cell hb h.2.2.1, keep_cell hb h.2.2.2.1, keep_cell hb h.2.2.2.2.1, keep_cell hb h.2.2.2.2.2.1, keep_cell hb h.2.2.2.2.2.2.1, keep_cell hb h.2.2.2.2.2.2.2.1, keep_cell hb h.2.2.2.2.2.2.2.2.1, keep_cell hb h.2.2.2.2.2.2.2.2.2⟩ : W'.cell? ⟨vb, vo + k, none⟩ = some (.string ⟨tk.toArray⟩) ∧ W'.cell? ⟨w.heap.size, 2, none⟩ = some (.int .u32 id) ∧ W'.cell? ⟨w.heap.size, 3, none⟩ = some (.int .u64 lsn) ∧ W'.cell? ⟨w.heap.size, 5, none⟩ = some (.slice (some ⟨vb, vo, none⟩) n cp) ∧ W'.cell? ⟨gS, 0, none⟩ = some (.int .u8 sa) ∧ W'.cell? ⟨gS, 1, none⟩ = some (.int .u8 sb) ∧ W'.cell? ⟨gS, 2, none⟩ = some (.int .u32 sc) ∧ W'.cell? ⟨gS, 3, none⟩ = some (.int .u64 sd) ∧ W'.cell? ⟨gS, 4, none⟩ = some (.int .u32 se) ∧ W'.cell? ⟨gS, 5, none⟩ = some (.slice A13 ns cp13))
      have KO := Lib.hid fun W W' gg (hb : OthersKept W W' (fun x => x = gg)) (hg : w14.heap.size ≤ gg) (h : W.cell? ⟨vb, vo + k, none⟩ = some (.string ⟨tk.toArray⟩) ∧ W.cell? ⟨w.heap.size, 2, none⟩ = some (.int .u32 id) ∧ W.cell? ⟨w.heap.size, 3, none⟩ = some (.int .u64 lsn) ∧ W.cell? ⟨w.heap.size, 5, none⟩ = some (.slice (some ⟨vb, vo, none⟩) n cp) ∧ W.cell? ⟨gS, 0, none⟩ = some (.int .u8 sa) ∧ W.cell? ⟨gS, 1, none⟩ = some (.int .u8 sb) ∧ W.cell? ⟨gS, 2, none⟩ = some (.int .u32 sc) ∧ W.cell? ⟨gS, 3, none⟩ = some (.int .u64 sd) ∧ W.cell? ⟨gS, 4, none⟩ = some (.int .u32 se) ∧ W.cell? ⟨gS, 5, none⟩ = some (.slice A13 ns cp13)) => (⟨hb.cell h.1 (fun e => absurd (show vb = gg from e) (by omega)), hb.cell h.2.1 (fun e => absurd (show w.heap.size = gg from e) (by omega)), hb.cell h.2.2.1 (fun e => absurd (show w.heap.size = gg from e) (by omega)), hb.cell h.2.2.2.1 (fun e => absurd (show w.heap.size = gg from e) (by omega)), hb.cell h.2.2.2.2.1 (fun e => absurd (show gS = gg from e) (by omega)), hb.cell h.2.2.2.2.2.1 (fun e => absurd (show gS = gg from e) (by omega)), hb.cell h.2.2.2.2.2.2.1 (fun e => absurd (show gS = gg from e) (by omega)), hb.cell h.2.2.2.2.2.2.2.1 (fun e => absurd (show gS = gg from e) (by omega)), hb.cell h.2.2.2.2.2.2.2.2.1 (fun e => absurd (show gS = gg from e) (by omega)), hb.cell h.2.2.2.2.2.2.2.2.2 (fun e => absurd (show gS = gg from e) (by omega))⟩ : W'.cell? ⟨vb, vo + k, none⟩ = some (.string ⟨tk.toArray⟩) ∧ W'.cell? ⟨w.heap.size, 2, none⟩ = some (.int .u32 id) ∧ W'.cell? ⟨w.heap.size, 3, none⟩ = some (.int .u64 lsn) ∧ W'.cell? ⟨w.heap.size, 5, none⟩ = some (.slice (some ⟨vb, vo, none⟩) n cp) ∧ W'.cell? ⟨gS, 0, none⟩ = some (.int .u8 sa) ∧ W'.cell? ⟨gS, 1, none⟩ = some (.int .u8 sb) ∧ W'.cell? ⟨gS, 2, none⟩ = some (.int .u32 sc) ∧ W'.cell? ⟨gS, 3, none⟩ = some (.int .u64 sd) ∧ W'.cell? ⟨gS, 4, none⟩ = some (.int .u32 se) ∧ W'.cell? ⟨gS, 5, none⟩ = some (.slice A13 ns cp13))
      refine wp_region_held_drew (S := fun W => W.cell? ⟨vb, vo + k, none⟩ = some (.string ⟨tk.toArray⟩) ∧ W.cell? ⟨w.heap.size, 2, none⟩ = some (.int .u32 id) ∧ W.cell? ⟨w.heap.size, 3, none⟩ = some (.int .u64 lsn) ∧ W.cell? ⟨w.heap.size, 5, none⟩ = some (.slice (some ⟨vb, vo, none⟩) n cp) ∧ W.cell? ⟨gS, 0, none⟩ = some (.int .u8 sa) ∧ W.cell? ⟨gS, 1, none⟩ = some (.int .u8 sb) ∧ W.cell? ⟨gS, 2, none⟩ = some (.int .u32 sc) ∧ W.cell? ⟨gS, 3, none⟩ = some (.int .u64 sd) ∧ W.cell? ⟨gS, 4, none⟩ = some (.int .u32 se) ∧ W.cell? ⟨gS, 5, none⟩ = some (.slice A13 ns cp13)) (by kernel_rfl) (KS.out _ _ ((Below.refl _ _).drew) ⟨hvc, x3, x4, x6, y1, y2, y3, y4, y5, y6⟩) (fun hHeld => ?_)
      refine wpAnyH_take (i := 0) (oi := { dst := some 180, op := Go.Op.load 45 (Go.Operand.tmp 19), type := 45, pos := "law.go:178", after := #[], guard := none }) (v := ?_) rfl (by kernel_rfl) (by kernel_rfl) (by kernel_rfl) (fun _ _ _ h => h) (Or.inl ⟨by rfl, ?_⟩) hHeld ?_
      rotate_left
      · (intro w hSw; go_simp <;> with_reducible rfl)
      simp only [Act.put, List.setIfInBounds_toArray, List.set_cons_zero, List.set_cons_succ]
      refine wpAnyH_take (i := 1) (oi := { dst := some 181, op := Go.Op.fieldAddr 45 (Go.Operand.tmp 3) 2, type := 0, pos := "law.go:178", after := #[], guard := none }) (v := ?_) rfl (by kernel_rfl) (by kernel_rfl) (by kernel_rfl) (fun _ _ _ h => h) (Or.inl ⟨by rfl, ?_⟩) hHeld ?_
      rotate_left
      · (intro w hSw; go_simp <;> with_reducible rfl)
      simp only [Act.put, List.setIfInBounds_toArray, List.set_cons_zero, List.set_cons_succ]
      refine wpAnyH_take (i := 2) (oi := { dst := some 182, op := Go.Op.load 23 (Go.Operand.tmp 181), type := 23, pos := "law.go:178", after := #[{ on := 1, ground := Go.Ground.data }], guard := none }) (v := ?_) rfl (by kernel_rfl) (by kernel_rfl) (by kernel_rfl) (fun _ _ _ h => h) (Or.inl ⟨by rfl, ?_⟩) hHeld ?_
      rotate_left
      · (intro w hSw; go_simp <;> with_reducible rfl)
      simp only [Act.put, List.setIfInBounds_toArray, List.set_cons_zero, List.set_cons_succ]
      refine wpAnyH_take (i := 3) (oi := { dst := some 183, op := Go.Op.move (Go.Operand.tmp 7), type := 3, pos := "law.go:178", after := #[], guard := none }) (v := ?_) rfl (by kernel_rfl) (by kernel_rfl) (by kernel_rfl) (fun _ _ _ h => h) (Or.inl ⟨by rfl, ?_⟩) hHeld ?_
      rotate_left
      · (intro w hSw; go_simp <;> with_reducible rfl)
      simp only [Act.put, List.setIfInBounds_toArray, List.set_cons_zero, List.set_cons_succ]
      refine wpAnyH_take (i := 4) (oi := { dst := some 184, op := Go.Op.fieldAddr 45 (Go.Operand.tmp 3) 5, type := 0, pos := "law.go:178", after := #[], guard := none }) (v := ?_) rfl (by kernel_rfl) (by kernel_rfl) (by kernel_rfl) (fun _ _ _ h => h) (Or.inl ⟨by rfl, ?_⟩) hHeld ?_
      rotate_left
      · (intro w hSw; go_simp <;> with_reducible rfl)
      simp only [Act.put, List.setIfInBounds_toArray, List.set_cons_zero, List.set_cons_succ]
      refine wpAnyH_take (i := 5) (oi := { dst := some 185, op := Go.Op.load 24 (Go.Operand.tmp 184), type := 24, pos := "law.go:178", after := #[{ on := 4, ground := Go.Ground.data }], guard := none }) (v := ?_) rfl (by kernel_rfl) (by kernel_rfl) (by kernel_rfl) (fun _ _ _ h => h) (Or.inl ⟨by rfl, ?_⟩) hHeld ?_
      rotate_left
      · (intro w hSw; go_simp <;> with_reducible rfl)
      simp only [Act.put, List.setIfInBounds_toArray, List.set_cons_zero, List.set_cons_succ]
      refine wpAnyH_take (i := 6) (oi := { dst := some 186, op := Go.Op.move (Go.Operand.tmp 7), type := 3, pos := "law.go:178", after := #[], guard := none }) (v := ?_) rfl (by kernel_rfl) (by kernel_rfl) (by kernel_rfl) (fun _ _ _ h => h) (Or.inl ⟨by rfl, ?_⟩) hHeld ?_
      rotate_left
      · (intro w hSw; go_simp <;> with_reducible rfl)
      simp only [Act.put, List.setIfInBounds_toArray, List.set_cons_zero, List.set_cons_succ]
      refine wpAnyH_take (i := 7) (oi := { dst := some 187, op := Go.Op.indexAddr 24 (Go.Operand.tmp 185) (Go.Operand.tmp 186), type := 0, pos := "law.go:178", after := #[{ on := 5, ground := Go.Ground.data }, { on := 6, ground := Go.Ground.data }], guard := none }) (v := ?_) rfl (by kernel_rfl) (by kernel_rfl) (by kernel_rfl) (fun _ _ _ h => h) (Or.inl ⟨by rfl, ?_⟩) hHeld ?_
      rotate_left
      · (intro w hSw; go_simp <;> with_reducible rfl)
      simp only [Act.put, List.setIfInBounds_toArray, List.set_cons_zero, List.set_cons_succ]
      refine wpAnyH_take (i := 8) (oi := { dst := some 188, op := Go.Op.load 9 (Go.Operand.tmp 187), type := 9, pos := "law.go:178", after := #[{ on := 7, ground := Go.Ground.data }], guard := none }) (v := ?_) rfl (by kernel_rfl) (by kernel_rfl) (by kernel_rfl) (fun _ _ _ h => h) (Or.inl ⟨by rfl, ?_⟩) hHeld ?_
      rotate_left
      · (intro w hSw; go_simp <;> with_reducible rfl)
      simp only [Act.put, List.setIfInBounds_toArray, List.set_cons_zero, List.set_cons_succ]
      refine wpAnyH_take (i := 9) (oi := { dst := some 189, op := Go.Op.build 26 #[(0, Go.Operand.const (Go.Value.int Go.IntKind.u8 3)), (1, Go.Operand.tmp 182), (2, Go.Operand.tmp 183), (4, Go.Operand.tmp 188)], type := 26, pos := "law.go:178", after := #[{ on := 2, ground := Go.Ground.data }, { on := 3, ground := Go.Ground.data }, { on := 8, ground := Go.Ground.data }], guard := none }) (v := ?_) rfl (by kernel_rfl) (by kernel_rfl) (by kernel_rfl) (fun _ _ _ h => h) (Or.inl ⟨by rfl, ?_⟩) hHeld ?_
      rotate_left
      · (intro w hSw; go_simp <;> with_reducible rfl)
      simp only [Act.put, List.setIfInBounds_toArray, List.set_cons_zero, List.set_cons_succ]
      refine wpAnyH_take (i := 10) (oi := { dst := some 190, op := Go.Op.fieldAddr 45 (Go.Operand.tmp 3) 3, type := 0, pos := "law.go:178", after := #[], guard := none }) (v := ?_) rfl (by kernel_rfl) (by kernel_rfl) (by kernel_rfl) (fun _ _ _ h => h) (Or.inl ⟨by rfl, ?_⟩) hHeld ?_
      rotate_left
      · (intro w hSw; go_simp <;> with_reducible rfl)
      simp only [Act.put, List.setIfInBounds_toArray, List.set_cons_zero, List.set_cons_succ]
      refine wpAnyH_take (i := 11) (oi := { dst := some 191, op := Go.Op.load 43 (Go.Operand.tmp 190), type := 43, pos := "law.go:178", after := #[{ on := 10, ground := Go.Ground.data }], guard := none }) (v := ?_) rfl (by kernel_rfl) (by kernel_rfl) (by kernel_rfl) (fun _ _ _ h => h) (Or.inl ⟨by rfl, ?_⟩) hHeld ?_
      rotate_left
      · (intro w hSw; go_simp <;> with_reducible rfl)
      simp only [Act.put, List.setIfInBounds_toArray, List.set_cons_zero, List.set_cons_succ]
      refine wpAnyH_ready (rs := [12, 16]) (by kernel_rfl) (by simp) (AllReadyH.cons (o := { dst := some 192, op := Go.Op.call { callee := Go.Callee.value (Go.Operand.func 26), args := #[Go.Operand.tmp 180, Go.Operand.tmp 189, Go.Operand.tmp 191], argTypes := #[45, 26, 43] }, type := 47, pos := "law.go:178", after := #[{ on := 0, ground := Go.Ground.data }, { on := 9, ground := Go.Ground.data }, { on := 11, ground := Go.Ground.data }], guard := none }) rfl (fun K hK => ?_) (AllReadyH.cons (o := { dst := some 21, op := Go.Op.alloc 45, type := 0, pos := "law.go:178", after := #[], guard := none }) rfl (fun K hK => ?_) AllReadyH.nil))
      · go_simp
        refine (RBX.out _ hA.out).mono ?_
        rintro e w6 ⟨da, dc, rfl, ht6, hb6, hbw6⟩
        have hb6 := Lib.hid hb6
        have hS6 := Lib.hid (KS.out _ _ hbw6 hHeld)
        have h56 : w14.heap.size ≤ w6.heap.size := hb6.out.size
        clear hbw6
        (try simp only)
        refine hK.out _ _ ?_ (fun hHeld => ?_)
        · exact hS6.out
        clear hK K
        (try simp only [Act.put, List.setIfInBounds_toArray, List.set_cons_zero, List.set_cons_succ])
        refine wpAnyH_take (i := 13) (oi := { dst := some 179, op := Go.Op.move (Go.Operand.tmp 192), type := 47, pos := "law.go:178", after := #[{ on := 12, ground := Go.Ground.data }], guard := none }) (v := ?_) rfl (by kernel_rfl) (by kernel_rfl) (by kernel_rfl) (fun _ _ _ h => h) (Or.inl ⟨by rfl, ?_⟩) hHeld ?_
        rotate_left
        · (intro w hSw; go_simp <;> with_reducible rfl)
        simp only [Act.put, List.setIfInBounds_toArray, List.set_cons_zero, List.set_cons_succ]
        refine wpAnyH_take (i := 14) (oi := { dst := some 193, op := Go.Op.extract (Go.Operand.tmp 179) 0, type := 45, pos := "law.go:178", after := #[{ on := 13, ground := Go.Ground.data }], guard := none }) (v := ?_) rfl (by kernel_rfl) (by kernel_rfl) (by kernel_rfl) (fun _ _ _ h => h) (Or.inl ⟨by rfl, ?_⟩) hHeld ?_
        rotate_left
        · (intro w hSw; go_simp <;> with_reducible rfl)
        simp only [Act.put, List.setIfInBounds_toArray, List.set_cons_zero, List.set_cons_succ]
        refine wpAnyH_take (i := 15) (oi := { dst := some 194, op := Go.Op.extract (Go.Operand.tmp 179) 1, type := 30, pos := "law.go:178", after := #[{ on := 13, ground := Go.Ground.data }, { on := 17, ground := Go.Ground.gcOnly Go.Departure.lateStores }], guard := none }) (v := ?_) rfl (by kernel_rfl) (by kernel_rfl) (by kernel_rfl) (fun _ _ _ h => h) (Or.inl ⟨by rfl, ?_⟩) hHeld ?_
        rotate_left
        · (intro w hSw; go_simp <;> with_reducible rfl)
        simp only [Act.put, List.setIfInBounds_toArray, List.set_cons_zero, List.set_cons_succ]
        refine wpAnyH_ready (rs := [16]) (by kernel_rfl) (by simp) (AllReadyH.cons (o := { dst := some 21, op := Go.Op.alloc 45, type := 0, pos := "law.go:178", after := #[], guard := none }) rfl (fun K hK => ?_) AllReadyH.nil)
        · go_simp
          refine hK.out _ _ ?_ (fun hHeld => ?_)
          · exact KS.out _ _ (alloc_below _ _) hHeld
          clear hK K
          (try simp only [Act.put, List.setIfInBounds_toArray, List.set_cons_zero, List.set_cons_succ])
          refine wpAnyH_ready (rs := [17]) (by kernel_rfl) (by simp) (AllReadyH.cons (o := { dst := none, op := Go.Op.store 45 (Go.Operand.tmp 21) (Go.Operand.tmp 193), type := 0, pos := "law.go:178", after := #[{ on := 16, ground := Go.Ground.data }, { on := 14, ground := Go.Ground.data }, { on := 12, ground := Go.Ground.chain }, { on := 0, ground := Go.Ground.phase }, { on := 1, ground := Go.Ground.phase }, { on := 2, ground := Go.Ground.phase }, { on := 3, ground := Go.Ground.phase }, { on := 4, ground := Go.Ground.phase }, { on := 5, ground := Go.Ground.phase }, { on := 6, ground := Go.Ground.phase }, { on := 7, ground := Go.Ground.phase }, { on := 8, ground := Go.Ground.phase }, { on := 9, ground := Go.Ground.phase }, { on := 10, ground := Go.Ground.phase }, { on := 11, ground := Go.Ground.phase }, { on := 12, ground := Go.Ground.phase }, { on := 13, ground := Go.Ground.phase }, { on := 14, ground := Go.Ground.phase }, { on := 15, ground := Go.Ground.textOnly Go.Departure.lateStores }, { on := 16, ground := Go.Ground.phase }], guard := none }) rfl (fun K hK => ?_) AllReadyH.nil)
          · have Z6 := Lib.hid (PgBox.new w6 0 0 0 0 0 (.slice none 0 0))
            refine step_store_pg rfl (.tmp 21) (.tmp 193) rfl Z6.out kind level id lsn next da n dc (by rfl) (by rfl) ?_
            intro wD hPD hKD
            have hPD := Lib.hid hPD
            have hKD := Lib.hid hKD
            refine hK.out _ _ ?_ (fun hHeld => ?_)
            · exact KO.out _ _ w6.heap.size hKD.out h56 hHeld
            clear hK K
            (try simp only [Act.put, List.setIfInBounds_toArray, List.set_cons_zero, List.set_cons_succ])
            refine wpAnyH_take (i := 18) (oi := { dst := some 22, op := Go.Op.assign (Go.Operand.tmp 194), type := 30, pos := "law.go:178", after := #[{ on := 15, ground := Go.Ground.data }, { on := 17, ground := Go.Ground.chain }, { on := 0, ground := Go.Ground.phase }, { on := 1, ground := Go.Ground.phase }, { on := 2, ground := Go.Ground.phase }, { on := 3, ground := Go.Ground.phase }, { on := 4, ground := Go.Ground.phase }, { on := 5, ground := Go.Ground.phase }, { on := 6, ground := Go.Ground.phase }, { on := 7, ground := Go.Ground.phase }, { on := 8, ground := Go.Ground.phase }, { on := 9, ground := Go.Ground.phase }, { on := 10, ground := Go.Ground.phase }, { on := 11, ground := Go.Ground.phase }, { on := 12, ground := Go.Ground.phase }, { on := 13, ground := Go.Ground.phase }, { on := 14, ground := Go.Ground.phase }, { on := 15, ground := Go.Ground.phase }, { on := 16, ground := Go.Ground.phase }, { on := 17, ground := Go.Ground.phase }], guard := none }) (v := ?_) rfl (by kernel_rfl) (by kernel_rfl) (by kernel_rfl) (fun _ _ _ h => h) (Or.inl ⟨by rfl, ?_⟩) hHeld ?_
            rotate_left
            · (intro w hSw; go_simp <;> with_reducible rfl)
            simp only [Act.put, List.setIfInBounds_toArray, List.set_cons_zero, List.set_cons_succ]
            refine wpAnyH_done (by kernel_rfl) ?_ _
            go_wp2_with fail
            go_meet
            exact ⟨w6.heap.size, da, dc, rfl, rfl, hPD, Lib.hid (texts_page Z6.out (ht6.out.below (alloc_below w6 _)) hKD.out (fun h x e => by cases e)), Lib.hid (OthersKept.below (below_then hb6.out (alloc_below w6 _)) hKD.out (fun k' hk' e => absurd (show k' = w6.heap.size from e) (by omega)))⟩
      · go_simp
        refine hK.out _ _ ?_ (fun hHeld => ?_)
        · exact KS.out _ _ (alloc_below _ _) hHeld
        clear hK K
        (try simp only [Act.put, List.setIfInBounds_toArray, List.set_cons_zero, List.set_cons_succ])
        refine wpAnyH_ready (rs := [12]) (by kernel_rfl) (by simp) (AllReadyH.cons (o := { dst := some 192, op := Go.Op.call { callee := Go.Callee.value (Go.Operand.func 26), args := #[Go.Operand.tmp 180, Go.Operand.tmp 189, Go.Operand.tmp 191], argTypes := #[45, 26, 43] }, type := 47, pos := "law.go:178", after := #[{ on := 0, ground := Go.Ground.data }, { on := 9, ground := Go.Ground.data }, { on := 11, ground := Go.Ground.data }], guard := none }) rfl (fun K hK => ?_) AllReadyH.nil)
        · go_simp
          refine (RBX.out _ hB.out).mono ?_
          rintro e w6 ⟨da, dc, rfl, ht6, hb6, hbw6⟩
          have Z6 := Lib.hid (PgBox.below (PgBox.new w14.drew 0 0 0 0 0 (.slice none 0 0)) hbw6)
          have hb6 := Lib.hid hb6
          have hS6 := Lib.hid (KS.out _ _ hbw6 hHeld)
          clear hbw6
          (try simp only)
          refine hK.out _ _ ?_ (fun hHeld => ?_)
          · exact hS6.out
          clear hK K
          (try simp only [Act.put, List.setIfInBounds_toArray, List.set_cons_zero, List.set_cons_succ])
          refine wpAnyH_take (i := 13) (oi := { dst := some 179, op := Go.Op.move (Go.Operand.tmp 192), type := 47, pos := "law.go:178", after := #[{ on := 12, ground := Go.Ground.data }], guard := none }) (v := ?_) rfl (by kernel_rfl) (by kernel_rfl) (by kernel_rfl) (fun _ _ _ h => h) (Or.inl ⟨by rfl, ?_⟩) hHeld ?_
          rotate_left
          · (intro w hSw; go_simp <;> with_reducible rfl)
          simp only [Act.put, List.setIfInBounds_toArray, List.set_cons_zero, List.set_cons_succ]
          refine wpAnyH_take (i := 14) (oi := { dst := some 193, op := Go.Op.extract (Go.Operand.tmp 179) 0, type := 45, pos := "law.go:178", after := #[{ on := 13, ground := Go.Ground.data }], guard := none }) (v := ?_) rfl (by kernel_rfl) (by kernel_rfl) (by kernel_rfl) (fun _ _ _ h => h) (Or.inl ⟨by rfl, ?_⟩) hHeld ?_
          rotate_left
          · (intro w hSw; go_simp <;> with_reducible rfl)
          simp only [Act.put, List.setIfInBounds_toArray, List.set_cons_zero, List.set_cons_succ]
          refine wpAnyH_take (i := 15) (oi := { dst := some 194, op := Go.Op.extract (Go.Operand.tmp 179) 1, type := 30, pos := "law.go:178", after := #[{ on := 13, ground := Go.Ground.data }, { on := 17, ground := Go.Ground.gcOnly Go.Departure.lateStores }], guard := none }) (v := ?_) rfl (by kernel_rfl) (by kernel_rfl) (by kernel_rfl) (fun _ _ _ h => h) (Or.inl ⟨by rfl, ?_⟩) hHeld ?_
          rotate_left
          · (intro w hSw; go_simp <;> with_reducible rfl)
          simp only [Act.put, List.setIfInBounds_toArray, List.set_cons_zero, List.set_cons_succ]
          refine wpAnyH_ready (rs := [17]) (by kernel_rfl) (by simp) (AllReadyH.cons (o := { dst := none, op := Go.Op.store 45 (Go.Operand.tmp 21) (Go.Operand.tmp 193), type := 0, pos := "law.go:178", after := #[{ on := 16, ground := Go.Ground.data }, { on := 14, ground := Go.Ground.data }, { on := 12, ground := Go.Ground.chain }, { on := 0, ground := Go.Ground.phase }, { on := 1, ground := Go.Ground.phase }, { on := 2, ground := Go.Ground.phase }, { on := 3, ground := Go.Ground.phase }, { on := 4, ground := Go.Ground.phase }, { on := 5, ground := Go.Ground.phase }, { on := 6, ground := Go.Ground.phase }, { on := 7, ground := Go.Ground.phase }, { on := 8, ground := Go.Ground.phase }, { on := 9, ground := Go.Ground.phase }, { on := 10, ground := Go.Ground.phase }, { on := 11, ground := Go.Ground.phase }, { on := 12, ground := Go.Ground.phase }, { on := 13, ground := Go.Ground.phase }, { on := 14, ground := Go.Ground.phase }, { on := 15, ground := Go.Ground.textOnly Go.Departure.lateStores }, { on := 16, ground := Go.Ground.phase }], guard := none }) rfl (fun K hK => ?_) AllReadyH.nil)
          · refine step_store_pg rfl (.tmp 21) (.tmp 193) rfl Z6.out kind level id lsn next da n dc (by rfl) (by rfl) ?_
            intro wD hPD hKD
            have hPD := Lib.hid hPD
            have hKD := Lib.hid hKD
            refine hK.out _ _ ?_ (fun hHeld => ?_)
            · exact KO.out _ _ w14.heap.size hKD.out (Nat.le_refl _) hHeld
            clear hK K
            (try simp only [Act.put, List.setIfInBounds_toArray, List.set_cons_zero, List.set_cons_succ])
            refine wpAnyH_take (i := 18) (oi := { dst := some 22, op := Go.Op.assign (Go.Operand.tmp 194), type := 30, pos := "law.go:178", after := #[{ on := 15, ground := Go.Ground.data }, { on := 17, ground := Go.Ground.chain }, { on := 0, ground := Go.Ground.phase }, { on := 1, ground := Go.Ground.phase }, { on := 2, ground := Go.Ground.phase }, { on := 3, ground := Go.Ground.phase }, { on := 4, ground := Go.Ground.phase }, { on := 5, ground := Go.Ground.phase }, { on := 6, ground := Go.Ground.phase }, { on := 7, ground := Go.Ground.phase }, { on := 8, ground := Go.Ground.phase }, { on := 9, ground := Go.Ground.phase }, { on := 10, ground := Go.Ground.phase }, { on := 11, ground := Go.Ground.phase }, { on := 12, ground := Go.Ground.phase }, { on := 13, ground := Go.Ground.phase }, { on := 14, ground := Go.Ground.phase }, { on := 15, ground := Go.Ground.phase }, { on := 16, ground := Go.Ground.phase }, { on := 17, ground := Go.Ground.phase }], guard := none }) (v := ?_) rfl (by kernel_rfl) (by kernel_rfl) (by kernel_rfl) (fun _ _ _ h => h) (Or.inl ⟨by rfl, ?_⟩) hHeld ?_
            rotate_left
            · (intro w hSw; go_simp <;> with_reducible rfl)
            simp only [Act.put, List.setIfInBounds_toArray, List.set_cons_zero, List.set_cons_succ]
            refine wpAnyH_done (by kernel_rfl) ?_ _
            go_wp2_with fail
            go_meet
            exact ⟨w14.heap.size, da, dc, rfl, rfl, hPD, Lib.hid (texts_page Z6.out ht6.out hKD.out (fun h x e => by cases e)), Lib.hid (OthersKept.below hb6.out hKD.out (fun k' hk' e => absurd (show k' = w14.heap.size from e) (by omega)))⟩
    case rest =>
    obtain ⟨gq, da, dc, rfl, rfl, Y15, U15, HBQ⟩ := hcut
    have B15 := Lib.hid (below_then B14.out HBQ.out)
    have T15 := Lib.hid (T14.out.below HBQ.out)
    have P15 := Lib.hid (P14.out.below HBQ.out)
    generalize wc = w15 at *
    clear HBQ RBX hA hB B14 T14 P14 GS14 XS14 x0 x1 x2 x3 x4 x5 x6 y0 y1 y2 y3 y4 y5 y6 hvc
    have r0 : ((0 : Int) == 0) = true := rfl
    obtain ⟨x0, x1, x2, x3, x4, x5, x6⟩ := P15.out.cells
    obtain ⟨z0, z1, z2, z3, z4, z5, z6⟩ := Y15.out.cells
    go_wp2_with fail
    clear x0 x1 x2 x3 x4 x5 x6 z0 z1 z2 z3 z4 z5 z6
    refine (refSame06_eq ⟨kind, level, id, lsn, next, rows⟩ (.slice da n dc) (.slice (some ⟨vb, vo, none⟩) n cp) _ U15.out T15.out).mono ?_
    rintro e w16 ⟨rfl, hb⟩
    have B16 := Lib.hid (below_then B15.out hb)
    have T16 := Lib.hid (T15.out.below hb)
    have P16 := Lib.hid (P15.out.below hb)
    have Y16 := Lib.hid (Y15.out.below hb)
    have U16 := Lib.hid (U15.out.below hb)
    clear hb B15 T15 P15 Y15 U15
    obtain ⟨x0, x1, x2, x3, x4, x5, x6⟩ := P16.out.cells
    obtain ⟨z0, z1, z2, z3, z4, z5, z6⟩ := Y16.out.cells
    go_wp2_with fail
    refine (aliveEnd.out _ B16.out).mono ?_
    rintro e wa ⟨rfl, hba⟩
    have Ba := Lib.hid hba
    clear hba
    go_wp2_with fail
    go_ret
    exact ⟨rfl, Ba.out⟩

end Go.Proofs.Ytjcfnfpilladfaa
