/- chapter 16: numbers, heavy, copied -/
import Derived.Test.YtienlhnbmobinaaRows
import Derived.Test.YtienlhnbmobinaaSpaceRefNew
import Derived.Test.YtienlhnbmobinaaTextsMove
import Derived.Test.YtienlhnbmobinaaPgStore
import Derived.Test.YtienlhnbmobinaaSpaceNums
import Derived.Test.YtienlhnbmobinaaSpacePlain
import Derived.Test.YtienlhnbmobinaaOpPlain
import Derived.Test.YtienlhnbmobinaaPlains
import Derived.Test.YtienlhnbmobinaaBase
import Derived.Test.YtienlhnbmobinaaTextsP
import Derived.WalkKit
import Derived.WalkLawsBesides
import Derived.WalkSpells
import Derived.LoopTactic
import Derived.WalkMore
import Derived.LoopN
import Derived.Laws.BitsAllLaws
import Derived.Laws.IdiomStrings
import Derived.BigQuiet
import Derived.Deep.QuietTactic
import Derived.Deep.DeepCutAuto
import Derived.Deep.RegionHeld3
import Derived.Deep.DrawnRows
import Derived.Lib.Hide
import Derived.Outline
import Derived.Deep.DeepMust
import Derived.Handy
namespace Go.Proofs.Ytienlhnbmobinaa
open Go.RowKit
set_option linter.unusedVariables false
set_option linter.unusedSimpArgs false

theorem weightB_lens (rows : List (List UInt8)) : weightB rows = lensB rows + 4 * rows.length := by
  induction rows with
  | nil => rfl
  | cons r rs ih => rw [weightB_cons, lensB_cons, ih, List.length_cons]; omega
theorem results_pg1 {fn : Func} {p : Tmp} (h : fn.results = #[.cell p 26]) (tmps : Array Value) (w : World) {g kind level id lsn next : Nat} {sv : Value} (hp : tmps.getD p undef = .pointer (some ⟨g, 0, none⟩)) (hb : PgBox w g kind level id lsn next sv) :
    (results fn tmps).run Try.prog w = .ok (.agg #[.int .u8 kind, .int .u8 level, .int .u32 id, .int .u64 lsn, .int .u32 next, sv]) w := by
  unfold PgBox at hb
  have hp2 : tmps[p]?.getD undef = .pointer (some ⟨g, 0, none⟩) := by simpa using hp
  simp [results, h, hp2, asAddr, run_loadVar_row w g 26 26 _ (0, 0) _ hb Try.underlying26 rfl (by kernel_rfl), Result.andThen]
set_option maxHeartbeats 2000000 in
set_option maxRecDepth 100000 in
theorem numbers16_any (a b : Value) (xs : List Nat) (w : World) (ha : N32At w a xs) (hb : N32At w b xs) (hn9 : xs.length ≤ 1000000) :
    Calls Try.prog 41 #[a, b] w fun e w' => e = .returned (.bool true) ∧ Below w.heap.size w w' := by
  obtain ⟨A, cp, rfl, h2, h3, h4, h5⟩ := ha
  obtain ⟨B, cq, rfl, k2, k3, k4, k5⟩ := hb
  have H5 := Lib.hid h5
  have K5 := Lib.hid k5
  obtain ⟨n, hn⟩ : ∃ n, n = xs.length := ⟨_, rfl⟩
  rw [← hn] at h2 k2 hn9 ⊢
  have HN := Lib.hid hn
  unfold maxLen at h3 k3
  clear h4 h5 k4 k5 hn
  have e0 : (n != n) = false := by simp
  have B0 := Lib.hid (Below.refl w.heap.size w)
  go_enter Try.func41, Try.ntmps41
  go_wp2_with fail
  go_loopw [5] (fun s5 wr => ∃ i : Nat, i ≤ n ∧ s5 = .int .i64 i ∧ Hid (Below w.heap.size w wr)) (fun v _ => n - (intOf v).toNat)
  case atStart => exact ⟨0, Nat.zero_le _, rfl, B0⟩
  case round =>
    obtain ⟨i, hi, rfl, HB⟩ := hrel
    clear B0
    by_cases hc : i < n
    · have hci : (i : Int) < (n : Int) := by omega
      have q0 : (0 : Int) ≤ (i : Int) := by omega
      have hil : i < xs.length := by rw [← HN.out]; exact hc
      obtain ⟨b1, o1, rfl, hb1, hc1⟩ := H5.out (by omega)
      obtain ⟨b2, o2, rfl, hb2, hc2⟩ := K5.out (by omega)
      have c1 := keep_cell HB.out (hc1 i hil)
      have c2 := keep_cell HB.out (hc2 i hil)
      clear hc1 hc2
      generalize xs[i] = x at *
      have e1 : ((x : Int) != (x : Int)) = false := by simp
      go_wp2_with fail
      go_region
      go_wp2_with fail
      exact ⟨⟨i + 1, by omega, by go_num, Lib.hid HB.out.drew⟩, by simp [intOf]; omega⟩
    · have hci : ¬ (i : Int) < (n : Int) := by omega
      go_wp2_with fail
      go_ret
      exact ⟨rfl, HB.out⟩
def heavy16 (rows : List (List UInt8)) : Bool := decide (60 < rows.length) || decide (4096 < lensB (rows.take 100))
theorem heavy16_no {rows : List (List UInt8)} (h : heavy16 rows = false) : rows.length ≤ 60 ∧ weightB rows ≤ 5000 := by
  unfold heavy16 at h
  rw [Bool.or_eq_false_iff, decide_eq_false_iff_not, decide_eq_false_iff_not] at h
  obtain ⟨h1, h2⟩ := h
  have h3 : rows.take 100 = rows := List.take_of_length_le (by omega)
  rw [h3] at h2
  have := weightB_lens rows
  omega
set_option maxHeartbeats 2000000 in
set_option maxRecDepth 100000 in
theorem heavy16_any (p : Pg) (sv : Value) (w : World) (ht : TextsAt w sv p.rows) (hz : ∀ r ∈ p.rows, r.length ≤ 140737488351232) :
    Calls Try.prog 31 #[pgV p sv] w fun e w' => e = .returned (.bool (heavy16 p.rows)) ∧ Below w.heap.size w w' := by
  have HT := Lib.hid ht
  obtain ⟨n, hn⟩ : ∃ n, n = p.rows.length := ⟨_, rfl⟩
  obtain ⟨A, cp, hsv, h2, h3, h4, h5⟩ := ht
  rw [← hn] at hsv h2
  subst hsv
  unfold maxLen at h3
  have HN := Lib.hid hn
  have HZ := Lib.hid hz
  clear h4 h5 hn hz
  obtain ⟨kind, level, id, lsn, next, rows⟩ := p
  simp only at HT HN HZ ⊢
  have P0 := Lib.hid (PgBox.new w kind level id lsn next (.slice A n cp))
  have B0 := Lib.hid (alloc_below w (.cells #[.int .u8 kind, .int .u8 level, .int .u32 id, .int .u64 lsn, .int .u32 next, .slice A n cp] 26))
  have T0 := Lib.hid (HT.out.below B0.out)
  unfold pgV
  simp only
  clear HT
  go_enter Try.func31, Try.ntmps31
  go_upto_region 1 with fail
  generalize w.alloc (.cells #[.int .u8 kind, .int .u8 level, .int .u32 id, .int .u64 lsn, .int .u32 next, .slice A n cp] 26) = w0 at *
  go_wp2_with fail
  go_loopw [3, 4] (fun s3 s4 wr => ∃ i : Nat, i ≤ n ∧ i ≤ 100 ∧ s4 = .int .i64 i ∧ s3 = .int .i64 (lensB (rows.take i) : Nat) ∧ Hid (lensB (rows.take i) ≤ i * 140737488351232) ∧ Hid (Below w0.heap.size w0 wr)) (fun _ v _ => n - (intOf v).toNat)
  case atStart => exact ⟨0, Nat.zero_le _, by omega, rfl, rfl, Lib.hid (by simp [lensB]), Lib.hid (Below.refl _ _)⟩
  case round =>
    obtain ⟨i, hi, hi2, rfl, rfl, HS, HB⟩ := hrel
    obtain ⟨x0, x1, x2, x3, x4, x5, x6⟩ := (P0.out.below HB.out).cells
    by_cases hc : i < n
    · have hci : (i : Int) < (n : Int) := by omega
      have q0 : (0 : Int) ≤ (i : Int) := by omega
      by_cases hc2 : i < 100
      · have hci2 : (i : Int) < 100 := by omega
        have hil : i < rows.length := by rw [← HN.out]; exact hc
        obtain ⟨_, _, hvv, _, _, _, hcc⟩ := T0.out.below HB.out
        obtain ⟨b, o, hA, hbl, hcell⟩ := hcc (by omega)
        cases hvv
        cases hA
        have c0 := hcell i hil
        have hsm := HS.out
        have hle := HZ.out rows[i] (List.getElem_mem hil)
        have LT := Lib.hid (lensB_take rows i hil)
        clear hcell hcc
        generalize rows[i] = r at *
        have hrz : (⟨r.toArray⟩ : ByteArray).size = r.length := rfl
        obtain ⟨m, hm⟩ : ∃ m, m = lensB (rows.take i) := ⟨_, rfl⟩
        rw [← hm] at hsm LT ⊢
        clear hm HS
        have hb1 : m + r.length ≤ (i + 1) * 140737488351232 := by omega
        go_wp2_with fail
        exact ⟨⟨i + 1, by omega, by omega, by go_num, by rw [LT.out]; go_num, Lib.hid (by rw [LT.out]; exact hb1), HB⟩, by simp [intOf]; omega⟩
      · have hi100 : i = 100 := by omega
        have hci2 : ¬ (i : Int) < 100 := by omega
        have hn60 : (60 : Int) < (n : Int) := by omega
        have HR : Hid (heavy16 rows = true) := by show _ = _; unfold heavy16; rw [decide_eq_true (by rw [← HN.out]; omega)]; rfl
        clear hi100
        go_wp2_with fail
        go_ret
        exact ⟨by rw [HR.out]; rfl, below_then B0.out HB.out⟩
    · have hci : ¬ (i : Int) < (n : Int) := by omega
      have hin : i = n := by omega
      have HR : Hid (heavy16 rows = (decide ((60 : Int) < (n : Int)) || decide ((4096 : Int) < (lensB (rows.take i) : Nat)))) := by
        show _ = _
        unfold heavy16
        rw [List.take_of_length_le (show rows.length ≤ 100 by rw [← HN.out]; omega), List.take_of_length_le (show rows.length ≤ i by rw [← HN.out]; omega), ← HN.out]
        congr 1
        · exact decide_eq_decide.2 (by omega)
        · exact decide_eq_decide.2 (by omega)
      clear hin
      obtain ⟨m, hm⟩ : ∃ m, m = lensB (rows.take i) := ⟨_, rfl⟩
      rw [← hm] at HR ⊢
      clear hm HS
      by_cases h60 : (60 : Int) < (n : Int)
      · rw [decide_eq_true h60] at HR
        go_wp2_with fail
        go_ret
        exact ⟨by rw [HR.out]; rfl, below_then B0.out HB.out⟩
      · rw [decide_eq_false h60] at HR
        go_wp2_with fail
        go_ret
        exact ⟨by rw [HR.out]; rfl, below_then B0.out HB.out⟩
set_option maxHeartbeats 2000000 in
set_option maxRecDepth 100000 in
theorem copied16_any (p : Pg) (sv : Value) (w : World) (ht : TextsAt w sv p.rows) (hn9 : p.rows.length ≤ 1000000) :
    Calls Try.prog 33 #[pgV p sv] w fun e w' => ∃ sv', e = .returned (pgV p sv') ∧ TextsAt w' sv' p.rows ∧ Below w.heap.size w w' := by
  have HT := Lib.hid ht
  obtain ⟨n, hn⟩ : ∃ n, n = p.rows.length := ⟨_, rfl⟩
  obtain ⟨A, cp, hsv, h2, h3, h4, h5⟩ := ht
  rw [← hn] at hsv h2 hn9
  subst hsv
  unfold maxLen at h3
  have HN := Lib.hid hn
  clear h4 h5 hn
  obtain ⟨kind, level, id, lsn, next, rows⟩ := p
  simp only at HT HN
  obtain ⟨i0, hif, hz0, hz1, hz2⟩ := info_parts Try.infoStrM
  have HI := Lib.hid hif
  have HI0 := Lib.hid hz0
  have HI1 := Lib.hid hz1
  have HI2 := Lib.hid hz2
  clear hif hz0 hz1 hz2
  have b0 := alloc_below w (.cells #[.int .u8 kind, .int .u8 level, .int .u32 id, .int .u64 lsn, .int .u32 next, .slice A n cp] 26)
  have P0 := Lib.hid ((PgBox.new w kind level id lsn next (.slice A n cp)).keep (.cells #[.int .u8 0, .int .u8 0, .int .u32 0, .int .u64 0, .int .u32 0, .slice none 0 0] 26))
  have b1 := alloc_below (w.alloc (.cells #[.int .u8 kind, .int .u8 level, .int .u32 id, .int .u64 lsn, .int .u32 next, .slice A n cp] 26)) (.cells #[.int .u8 0, .int .u8 0, .int .u32 0, .int .u64 0, .int .u32 0, .slice none 0 0] 26)
  have B0 := Lib.hid (below_then b0 b1)
  have Z0 := Lib.hid (PgBox.zero (w.alloc (.cells #[.int .u8 kind, .int .u8 level, .int .u32 id, .int .u64 lsn, .int .u32 next, .slice A n cp] 26)))
  have hz1 : (w.alloc (.cells #[.int .u8 kind, .int .u8 level, .int .u32 id, .int .u64 lsn, .int .u32 next, .slice A n cp] 26)).heap.size = w.heap.size + 1 := by simp
  rw [hz1] at Z0
  have T0 := Lib.hid (HT.out.below B0.out)
  unfold pgV
  simp only
  clear b0 b1 hz1 HT
  go_enter Try.func33, Try.ntmps33
  go_upto_region 1 with fail
  generalize (w.alloc (.cells #[.int .u8 kind, .int .u8 level, .int .u32 id, .int .u64 lsn, .int .u32 next, .slice A n cp] 26)).alloc (.cells #[.int .u8 0, .int .u8 0, .int .u32 0, .int .u64 0, .int .u32 0, .slice none 0 0] 26) = w0 at *
  obtain ⟨x0, x1, x2, x3, x4, x5, x6⟩ := P0.out.cells
  have hz : w.heap.size + 1 < w0.heap.size := Z0.out.lt
  have TR := Lib.hid T0.out.reads
  rw [← HN.out] at TR
  go_upto_region 2 with (at_builtin; refine wpList_append_any _ rfl _ _ 24 rfl w0.heap.size 9 i0 (.string ⟨#[]⟩) 1 16 Try.underlying24 HI.out HI0.out HI1.out HI2.out rfl (by decide) (.slice none 0 0) 0 [] (by rfl) (World.ownsRow_nil _ _ _ _) (.slice A n cp) n (strs rows) (by rfl) TR.out (strs_oneCell _) (by unfold maxLen; omega) (by omega) (Nat.le_refl _) ?_; intro v7 w7 hown7 hgrow7; simp only [Nat.zero_add, List.nil_append] at hown7; obtain ⟨rb, rc, hv7, _, hrc, _⟩ := own_form hown7; subst hv7; have HO := Lib.hid hown7; have PG := Lib.hid (P0.out.grown hgrow7 (by simp [Value.ownBlock])); have ZG := Lib.hid (Z0.out.grown hgrow7 (by simp [Value.ownBlock])); have BG := Lib.hid (B0.out.grown hgrow7 (by omega) (fun j hj => by cases hj)); clear hown7 hgrow7 x0 x1 x2 x3 x4 x5 x6; obtain ⟨x0, x1, x2, x3, x4, x5, x6⟩ := PG.out.cells; obtain ⟨f0, f1, f2, f3, f4, f5⟩ := PG.out.fr)
  have hk := one_kept w7 w.heap.size 5 (.slice rb n rc)
  have P8 := Lib.hid (PG.out.set5 (.slice rb n rc))
  have Z8 := Lib.hid (ZG.out.kept hk (by omega))
  have T8 := Lib.hid (TextsAt.off_pg (texts_own HO.out).1 PG.out (fun x e => by cases e) hk)
  have B8 := Lib.hid (OthersKept.below BG.out hk (fun k hk e => by omega))
  generalize w7.setCell ⟨w.heap.size, 5, none⟩ (.slice rb n rc) = w8 at *
  clear x0 x1 x2 x3 x4 x5 x6 f0 f1 f2 f3 f4 f5 hk PG ZG BG HO
  obtain ⟨x0, x1, x2, x3, x4, x5, x6⟩ := P8.out.cells
  go_wp2_with (refine wpList_store_pg rfl (.tmp 2) (.tmp 7) rfl Z8.out kind level id lsn next rb n rc (by rfl) (by rfl) ?_; intro wS hP hK; have PS := Lib.hid hP; have KS := Lib.hid hK; clear hP hK)
  refine bodyPost_ret (results_pg1 (p := 2) (by kernel_rfl) _ _ rfl PS.out) rfl ?_
  exact ⟨_, rfl, TextsAt.off_pg T8.out Z8.out (fun x e => by cases e) KS.out, OthersKept.below B8.out KS.out (fun k hk e => by omega)⟩

end Go.Proofs.Ytienlhnbmobinaa
