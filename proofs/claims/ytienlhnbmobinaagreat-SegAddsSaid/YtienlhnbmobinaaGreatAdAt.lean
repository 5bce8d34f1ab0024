/- Kept of our texts for this claim: SegRows SegRefRows SegFind SegCode -/
import Derived.Test.YtienlhnbmobinaaGreatRows
import Derived.Test.YtienlhnbmobinaaGreatAdAs
import Derived.Test.YtienlhnbmobinaaGreatAdAa
import Derived.Test.YtienlhnbmobinaaGreatAdAc
import Derived.Test.YtienlhnbmobinaaGreatAdAk
import Derived.Test.YtienlhnbmobinaaGreatAdAb
import Derived.Test.YtienlhnbmobinaaGreatAdAr
import Derived.WalkKit
import Derived.WalkLawsBesides
import Derived.WalkSpells
import Derived.LoopTactic
import Derived.WalkMore
import Derived.LoopN
import Derived.Laws.BitsAllLaws
import Derived.Laws.IdiomStrings
import Derived.BigQuiet
import Derived.Deep.QuietTactic
import Derived.Deep.DeepCutAuto
import Derived.Deep.RegionHeld3
import Derived.Deep.DrawnRows
import Derived.Lib.Hide
import Derived.Outline
import Derived.Deep.DeepMust
import Derived.Handy
import Derived.Deep.CutBlock
import Derived.Deep.LoopGhost
import Derived.Test.YtienlhnbmobinaaGreatAdAd
section
/- chapter 22: the rows of a head page (seg.Rows) -/
namespace Go.Proofs.YtienlhnbmobinaaGreat
open Go.RowKit
set_option linter.unusedVariables false
set_option linter.unusedSimpArgs false
def Sg.cell (s : Sg) : List Value := [.int .u64 s.tx, .int .u8 s.st, .int .u64 s.num, .int .u32 s.fp, .int .u32 s.lp, .int .u32 s.hp, .int .u16 s.hs]
/-- Rows made here. -/
def OwnSegs (w : World) (base : Nat) (v : Value) (L : List Sg) : Prop := w.ownsRow base 52 7 v L.length (L.flatMap Sg.cell)
theorem OwnSegs.nil (w : World) (base : Nat) : OwnSegs w base (.slice none 0 0) [] := World.ownsRow_nil _ _ _ _
theorem OwnSegs.below {w w' : World} {base : Nat} {v : Value} {L : List Sg} (h : OwnSegs w base v L) (hb : Below w.heap.size w w') : OwnSegs w' base v L := own_below h hb
theorem OwnSegs.snoc {w2 : World} {base : Nat} {v' : Value} {L : List Sg} {s : Sg} (ho : w2.ownsRow base 52 7 v' (L.length + 1) (L.flatMap Sg.cell ++ s.cell)) : OwnSegs w2 base v' (L ++ [s]) := by
  unfold OwnSegs
  rw [List.length_append, List.flatMap_append]
  simpa using ho
theorem flat_getS (l : List Sg) : ∀ (j i : Nat) (v : Value) (h : j < l.length), l[j].cell[i]? = some v → (l.flatMap Sg.cell)[j * 7 + i]? = some v := by
  induction l with
  | nil => intro j i v h; simp at h
  | cons r rs ih =>
    intro j i v h hv
    have hr : r.cell.length = 7 := rfl
    rw [List.flatMap_cons]
    cases j with
    | zero =>
      have hi : i < 7 := by have := (List.getElem?_eq_some_iff.1 hv).1; rw [List.getElem_cons_zero, hr] at this; exact this
      rw [List.getElem?_append_left (by rw [hr]; omega)]
      simpa using hv
    | succ j =>
      rw [List.getElem?_append_right (by rw [hr]; omega), hr, show (j + 1) * 7 + i - 7 = j * 7 + i by omega]
      exact ih j i v (by simpa using h) (by simpa using hv)
/-- Rows that stand in memory. -/
def SegsAt (w : World) (v : Value) (L : List Sg) : Prop :=
  ∃ (A : Option Addr) (cp : Nat), v = .slice A L.length cp ∧ L.length ≤ cp ∧ cp ≤ maxLen ∧ (0 < L.length → ∃ b o, A = some ⟨b, o, none⟩ ∧ b < w.heap.size ∧ ∀ j (h : j < L.length) i u, L[j].cell[i]? = some u → w.cell? ⟨b, o + j * 7 + i, none⟩ = some u)
theorem SegsAt.below {w w' : World} {v : Value} {L : List Sg} (h : SegsAt w v L) (hb : Below w.heap.size w w') : SegsAt w' v L := by
  obtain ⟨A, cp, h1, h2, h3, h4⟩ := h
  refine ⟨A, cp, h1, h2, h3, fun h0 => ?_⟩
  obtain ⟨b, o, e1, e2, e3⟩ := h4 h0
  exact ⟨b, o, e1, Nat.lt_of_lt_of_le e2 hb.size, fun j hj i u hu => (hb.cell (p := ⟨b, o + j * 7 + i, none⟩) e2).trans (e3 j hj i u hu)⟩
theorem OwnSegs.at_ {w : World} {base : Nat} {v : Value} {L : List Sg} (h : OwnSegs w base v L) : SegsAt w v L := by
  obtain ⟨hl, h1⟩ := h
  rcases h1 with ⟨rfl, h0⟩ | ⟨g, cap, cur, rfl, hg, hb, hn, hc, hz, ht⟩
  · have : L = [] := List.eq_nil_of_length_eq_zero h0
    subst this
    exact ⟨none, 0, rfl, Nat.le_refl _, Nat.zero_le _, fun h => absurd h (Nat.lt_irrefl 0)⟩
  · refine ⟨_, cap, rfl, hn, hc, fun h0 => ⟨g, 0, rfl, blk_lt hb, fun j hj i v hv => ?_⟩⟩
    have h3 := flat_getS L j i v hj hv
    rw [← ht, List.getElem?_take] at h3
    split at h3
    · rw [show 0 + j * 7 + i = j * 7 + i by omega, blk_cell hb]
      simpa using h3
    · cases h3
theorem Tryz.infoSeg : (Tryz.prog.info? 52).map (fun i => (i.zero, i.size, i.bytes)) = some (some (.agg #[.int .u64 0, .int .u8 0, .int .u64 0, .int .u32 0, .int .u32 0, .int .u32 0, .int .u16 0]), 7, 40) := by kernel_rfl
theorem sg_one (s : Sg) : ∀ u ∈ s.cell, u.oneCell' = true := by
  intro u hu
  simp only [Sg.cell, List.mem_cons, List.not_mem_nil, or_false] at hu
  rcases hu with rfl | rfl | rfl | rfl | rfl | rfl | rfl <;> rfl
theorem sg_reads (w : World) (s : Sg) : Reads (w.alloc (.cells s.cell.toArray 52)) (.slice (some ⟨w.heap.size, 0, none⟩) 1 1) 1 7 s.cell := by
  refine .inr ⟨_, 1, rfl, rfl, fun j u hu => ?_⟩
  rw [Addr.add_lit, show 0 + j = j by omega, blk_cell (heap_alloc_new w _)]
  simpa using hu
/-- What reading a head page's rows leaves. -/
def SegPost (w : World) (R : Option (List Sg)) (e : Ending) (w' : World) : Prop := ∃ v, e = .returned (.tuple #[v, .int .i64 (if R.isSome then 0 else 60)]) ∧ OwnSegs w' w.heap.size v (R.getD []) ∧ Below w.heap.size w w'
theorem SegPost.no {w w' : World} {R : Option (List Sg)} (h : R = none) (hb : Below w.heap.size w w') : SegPost w R (.returned (.tuple #[.slice none 0 0, .int .i64 60])) w' := by
  subst h
  exact ⟨_, rfl, OwnSegs.nil _ _, hb⟩
set_option maxHeartbeats 4000000 in
set_option maxRecDepth 100000 in
theorem segRows_any (p : Pg) (sv : Value) (w : World) (hp : p.wf) (ht : TextsAt w sv p.rows) (hb : weightB p.rows ≤ 1000000) :
    Calls Tryz.prog 52 #[pgV p sv] w (SegPost w (segsB p)) := by
  have PM := Lib.hid fun W (h : TextsAt W sv p.rows) => pageMay_any p sv W hp h hb
  have DC := Lib.hid fun (i : Nat) (h : i < p.rows.length) W => segDecode_any p.rows[i] W (by have := weightB_mem (List.getElem_mem h); omega)
  have HT := Lib.hid ht
  have hnb : p.rows.length ≤ 1000000 := by have := weightB_length p.rows; omega
  obtain ⟨n, hn⟩ : ∃ n, n = p.rows.length := ⟨_, rfl⟩
  obtain ⟨A, cp, hsv, h2, h3, h4, h5⟩ := ht
  rw [← hn] at hsv h2 hnb
  subst hsv
  have H5 := Lib.hid h5
  obtain ⟨R, hR⟩ : ∃ R, R = segsB p := ⟨_, rfl⟩
  rw [← hR]
  unfold segsB at hR
  have HR := Lib.hid hR
  obtain ⟨m, hm⟩ : ∃ b, b = p.may := ⟨_, rfl⟩
  rw [← hm] at PM HR
  clear hR hm h4 h5
  unfold pgV at *
  obtain ⟨kind, level, id, lsn, next, rows⟩ := p
  clear hp hb
  have HN := Lib.hid hn
  clear hn
  simp only at *
  unfold maxLen at h3
  obtain ⟨i0, hif, hz0, hz1, hz2⟩ := info_parts Tryz.infoSeg
  have HI := Lib.hid hif
  have HI0 := Lib.hid hz0
  have HI1 := Lib.hid hz1
  have HI2 := Lib.hid hz2
  clear hif hz0 hz1 hz2
  have X0 := Lib.hid (PgBox.new w kind level id lsn next (.slice A n cp))
  have B0 := Lib.hid (alloc_below w (.cells #[.int .u8 kind, .int .u8 level, .int .u32 id, .int .u64 lsn, .int .u32 next, .slice A n cp] 26))
  go_enter Tryz.func52, Tryz.ntmps52
  go_upto_region 1 with fail
  generalize w.alloc (.cells #[.int .u8 kind, .int .u8 level, .int .u32 id, .int .u64 lsn, .int .u32 next, .slice A n cp] 26) = w0 at *
  have T0 := Lib.hid (HT.out.below B0.out)
  obtain ⟨x0, x1, x2, x3, x4, x5, x6⟩ := X0.out.cells
  by_cases hk : kind = 5
  case neg =>
    have hkn : ((kind : Int) != 5) = true := by simp; omega
    have HR0 : Hid (R = none) := by show R = none; rw [HR.out, if_neg (fun h => hk h.1)]
    clear HR PM DC
    go_wp2_with fail
    go_ret2
    exact SegPost.no HR0.out B0.out
  have hkn : ((kind : Int) != 5) = false := by simp [hk]
  have HKK := Lib.hid hk
  clear hk
  go_wp2_with fail
  refine (PM.out _ T0.out).mono ?_
  rintro e w1 ⟨rfl, hb1⟩
  have B1 := Lib.hid (below_then B0.out hb1)
  have X1 := Lib.hid (X0.out.below hb1)
  clear hb1 x0 x1 x2 x3 x4 x5 x6 PM X0 T0
  cases m with
  | false =>
    have HR0 : Hid (R = none) := by show R = none; rw [HR.out, if_neg (fun h => by cases h.2)]
    clear HR DC
    go_wp2_with fail
    go_ret2
    exact SegPost.no HR0.out B1.out
  | true =>
    have HR1 : Hid (R = segGo 0 rows) := by show R = _; rw [HR.out, if_pos ⟨HKK.out, rfl⟩]
    clear HR
    obtain ⟨x0, x1, x2, x3, x4, x5, x6⟩ := X1.out.cells
    go_wp2_with fail
    go_loopw [2, 4, 20] (fun s2 s4 s20 wr => ∃ (i : Nat) (acc : List Sg), s20 = .int .i64 i ∧ i ≤ n ∧ s4 = .int .u64 (lastTx acc) ∧ Hid (segTo rows i = some acc) ∧ acc.length = i ∧ Hid (OwnSegs wr w.heap.size s2 acc) ∧ Hid (Below w.heap.size w wr)) (fun _ _ v _ => n - (intOf v).toNat)
    case atStart => exact ⟨0, [], rfl, Nat.zero_le _, rfl, Lib.hid (segTo_zero rows), rfl, Lib.hid (OwnSegs.nil _ _), B1⟩
    case round =>
      obtain ⟨i, acc, rfl, hi, rfl, HK, hLi, HO, HB⟩ := hrel
      clear x0 x1 x2 x3 x4 x5 x6
      by_cases hc : i < n
      · have hci : (i : Int) < (n : Int) := by omega
        have q1 : (0 : Int) ≤ (i : Int) := by omega
        have hit : i < rows.length := by rw [← HN.out]; exact hc
        obtain ⟨b0, o0, rfl, hb0, hcell⟩ := H5.out (by omega)
        have c1 := (HB.out.cell (p := ⟨b0, o0 + i, none⟩) hb0).trans (hcell i hit)
        have D0 := Lib.hid fun W => DC.out i hit W
        have HNX := Lib.hid (segTo_next HK.out hit)
        have HNO := Lib.hid fun h => segTo_none (rows := rows) (i := i + 1) h
        clear hcell
        generalize rows[i] = r at *
        clear hit
        unfold sgDecV at D0
        cases hd : sgDec r with
        | none =>
          rw [hd] at D0 HNX
          have HR0 : Hid (R = none) := by show R = none; rw [HR1.out]; exact HNO.out HNX.out
          unfold sgV at D0
          simp only [Option.getD_none, Option.isSome_none, Sg.zero] at D0
          (try simp only [Bool.false_eq_true, if_false] at D0)
          clear HNX HNO DC HR1 hd
          go_wp2_with fail
          refine (D0.out _).mono ?_
          rintro e w2 ⟨rfl, hb⟩
          have B2 := Lib.hid (HB.out.trans (hb.mono HB.out.size))
          have hsz := B2.out.size
          clear hb D0
          go_wp2_with fail
          go_ret2
          exact SegPost.no HR0.out (B2.out.alloc hsz _)
        | some x =>
          rw [hd] at D0 HNX
          have hm := (sgDec_may hd).2.1
          obtain ⟨x0, x1, x2, x3, x4, x5, x6⟩ := x
          unfold sgV at D0
          simp only [Option.getD_some, Option.isSome_some, if_true] at D0
          obtain ⟨la, hla⟩ : ∃ z, z = lastTx acc := ⟨_, rfl⟩
          rw [← hla] at HNX ⊢
          have hla8 : la < 256 ^ 8 ∨ True := .inr trivial
          clear hd hm hla hla8 DC
          go_upto_region 7 with fail
          clear c1
          go_wp2_with fail
          refine (D0.out _).mono ?_
          rintro e w2 ⟨rfl, hb⟩
          have B2 := Lib.hid (HB.out.trans (hb.mono HB.out.size))
          have O2 := Lib.hid (HO.out.below hb)
          clear hb D0 HO HB
          have B3 := Lib.hid (B2.out.alloc B2.out.size (.cells #[.int .u64 x0, .int .u8 x1, .int .u64 x2, .int .u32 x3, .int .u32 x4, .int .u32 x5, .int .u16 x6] 52))
          have O3 := Lib.hid (O2.out.below (alloc_below w2 (.cells #[.int .u64 x0, .int .u8 x1, .int .u64 x2, .int .u32 x3, .int .u32 x4, .int .u32 x5, .int .u16 x6] 52)))
          have S3 : Hid (SgBox (w2.alloc (.cells #[.int .u64 x0, .int .u8 x1, .int .u64 x2, .int .u32 x3, .int .u32 x4, .int .u32 x5, .int .u16 x6] 52)) w2.heap.size ⟨x0, x1, x2, x3, x4, x5, x6⟩) := heap_alloc_new w2 _
          go_upto_region 8 with fail
          generalize w2.alloc (.cells #[.int .u64 x0, .int .u8 x1, .int .u64 x2, .int .u32 x3, .int .u32 x4, .int .u32 x5, .int .u16 x6] 52) = w3 at *
          obtain ⟨g, hg⟩ : ∃ g, g = w2.heap.size := ⟨_, rfl⟩
          rw [← hg] at S3 ⊢
          clear hg B2 O2
          obtain ⟨yl, y0, y1, y2, y3, y4, y5, y6⟩ := S3.out.cells
          simp only at y0 y1 y2 y3 y4 y5 y6
          (try simp only at HNX)
          by_cases hle : x0 ≤ la
          · have HR0 : Hid (R = none) := by show R = none; rw [HR1.out]; exact HNO.out (by rw [HNX.out, if_pos hle])
            clear HNX HNO HR1
            go_wp2_with fail
            go_ret2
            exact SegPost.no HR0.out B3.out
          · have HNX2 := Lib.hid (HNX.out.trans (if_neg hle))
            clear HNX HNO
            have hs3 : w.heap.size ≤ w3.heap.size := B3.out.size
            obtain ⟨e, he⟩ : ∃ e : Sg, e = ⟨x0, x1, x2, x3, x4, x5, x6⟩ := ⟨_, rfl⟩
            rw [← he] at HNX2
            have hE : Hid (#[.int .u64 x0, .int .u8 x1, .int .u64 x2, .int .u32 x3, .int .u32 x4, .int .u32 x5, .int .u16 x6] = e.cell.toArray) := by show _ = _; rw [he]; rfl
            have hEt : Hid (lastTx (acc ++ [e]) = x0) := by show _ = _; rw [lastTx_snoc, he]
            have O4 := Lib.hid (O3.out.below (alloc_below w3 (.cells #[.int .u64 x0, .int .u8 x1, .int .u64 x2, .int .u32 x3, .int .u32 x4, .int .u32 x5, .int .u16 x6] 52)))
            have B4 := Lib.hid (B3.out.alloc hs3 (.cells #[.int .u64 x0, .int .u8 x1, .int .u64 x2, .int .u32 x3, .int .u32 x4, .int .u32 x5, .int .u16 x6] 52))
            have RE : Hid (Reads (w3.alloc (.cells #[.int .u64 x0, .int .u8 x1, .int .u64 x2, .int .u32 x3, .int .u32 x4, .int .u32 x5, .int .u16 x6] 52)) (.slice (some ⟨w3.heap.size, 0, none⟩) 1 1) 1 7 e.cell) := by
              show Reads _ _ _ _ _
              rw [hE.out]
              exact sg_reads w3 e
            have hs4 : w.heap.size ≤ (w3.alloc (.cells #[.int .u64 x0, .int .u8 x1, .int .u64 x2, .int .u32 x3, .int .u32 x4, .int .u32 x5, .int .u16 x6] 52)).heap.size := B4.out.size
            clear O3 B3 he
            go_wp2_with (at_builtin; refine wpList_append_any _ rfl _ _ 60 rfl w.heap.size 52 i0 (.agg #[.int .u64 0, .int .u8 0, .int .u64 0, .int .u32 0, .int .u32 0, .int .u32 0, .int .u16 0]) 7 40 Tryz.underlying60 HI.out HI0.out HI1.out HI2.out rfl (by decide) _ _ _ (by rfl) O4.out (.slice (some ⟨w3.heap.size, 0, none⟩) 1 1) 1 e.cell (by rfl) RE.out (sg_one e) (by unfold maxLen; omega) (by omega) hs4 ?_; intro v' w6 hown6 hgrow6; have O6 := Lib.hid (OwnSegs.snoc hown6); have B6 := Lib.hid (B4.out.grown hgrow6 hs4 (fun j hj => by have := (O4.out.lt j hj).1; omega)); clear hown6 hgrow6)
            go_roundw
            case rel => exact ⟨i + 1, acc ++ [e], by go_num, by omega, by rw [hEt.out], HNX2, by simp [hLi], O6, B6⟩
            case measure => simp [intOf] <;> omega
      · have hci : ¬ (i : Int) < (n : Int) := by omega
        have HR0 : Hid (R = some acc) := by show R = some acc; rw [HR1.out, ← HK.out, segTo_all (by rw [← HN.out]; omega)]
        clear HR1 HK DC
        go_wp2_with fail
        go_ret2
        exact ⟨_, by rw [HR0.out]; rfl, by rw [HR0.out]; exact HO.out, HB.out⟩
end Go.Proofs.YtienlhnbmobinaaGreat
end

section
/- chapter 22: the rows of a head page (the reference's) -/
namespace Go.Proofs.YtienlhnbmobinaaGreat
open Go.RowKit
set_option linter.unusedVariables false
set_option linter.unusedSimpArgs false
theorem OwnSegs.mono {w : World} {base base' : Nat} {v : Value} {L : List Sg} (h : OwnSegs w base v L) (hb : base' ≤ base) : OwnSegs w base' v L := by
  obtain ⟨h1, h2⟩ := h
  refine ⟨h1, ?_⟩
  rcases h2 with h2 | ⟨g, cap, cur, e1, e2, e3⟩
  · exact .inl h2
  · exact .inr ⟨g, cap, cur, e1, Nat.le_trans hb e2, e3⟩
end Go.Proofs.YtienlhnbmobinaaGreat
end

section
/- chapter 22: where a transaction's row is (seg.find) -/
namespace Go.Proofs.YtienlhnbmobinaaGreat
open Go.RowKit
set_option linter.unusedVariables false
set_option linter.unusedSimpArgs false
def cmpC (a b : Nat) : Int := if a < b then -1 else if b < a then 1 else 0
theorem nan_any (a : Nat) (w : World) : Calls Tryz.prog 73 #[.int .u64 a] w fun e w' => e = .returned (.bool false) ∧ w = w' := by
  have h : ((a : Int) != (a : Int)) = false := by simp
  go_enter Tryz.func73, Tryz.ntmps73
  go_wp2_with fail
  go_ret
  exact ⟨rfl, rfl⟩
set_option maxHeartbeats 1000000 in
theorem compare_any (a b : Nat) (w : World) : Calls Tryz.prog 41 #[.int .u64 a, .int .u64 b] w fun e w' => e = .returned (.int .i64 (cmpC a b)) ∧ w = w' := by
  have N1 := Lib.hid fun W => nan_any a W
  have N2 := Lib.hid fun W => nan_any b W
  by_cases h1 : a < b
  · have hc : cmpC a b = -1 := if_pos h1
    rw [hc]
    clear hc
    go_enter Tryz.func41, Tryz.ntmps41
    go_wp2_with fail
    refine (N1.out _).mono ?_
    rintro e w1 ⟨rfl, rfl⟩
    go_wp2_with fail
    refine (N2.out _).mono ?_
    rintro e w1 ⟨rfl, rfl⟩
    go_wp2_with fail
    go_ret
    exact ⟨rfl, rfl⟩
  · by_cases h2 : b < a
    · have hc : cmpC a b = 1 := (if_neg h1).trans (if_pos h2)
      rw [hc]
      clear hc
      go_enter Tryz.func41, Tryz.ntmps41
      go_wp2_with fail
      refine (N1.out _).mono ?_
      rintro e w1 ⟨rfl, rfl⟩
      go_wp2_with fail
      refine (N2.out _).mono ?_
      rintro e w1 ⟨rfl, rfl⟩
      go_wp2_with fail
      go_ret
      exact ⟨rfl, rfl⟩
    · have hc : cmpC a b = 0 := (if_neg h1).trans (if_neg h2)
      rw [hc]
      clear hc
      go_enter Tryz.func41, Tryz.ntmps41
      go_wp2_with fail
      refine (N1.out _).mono ?_
      rintro e w1 ⟨rfl, rfl⟩
      go_wp2_with fail
      refine (N2.out _).mono ?_
      rintro e w1 ⟨rfl, rfl⟩
      go_wp2_with fail
      go_ret
      exact ⟨rfl, rfl⟩
theorem segCmp_any (s : Sg) (tx : Nat) (w : World) : Calls Tryz.prog 54 #[sgV s, .int .u64 tx] w fun e w' => e = .returned (.int .i64 (cmpC s.tx tx)) ∧ Below w.heap.size w w' := by
  have C := Lib.hid fun W => compare_any s.tx tx W
  have HB := Lib.hid (SgBox.new w s)
  have B0 := Lib.hid (alloc_below w (.cells #[.int .u64 s.tx, .int .u8 s.st, .int .u64 s.num, .int .u32 s.fp, .int .u32 s.lp, .int .u32 s.hp, .int .u16 s.hs] 52))
  generalize cmpC s.tx tx = c at *
  unfold sgV
  go_enter Tryz.func54, Tryz.ntmps54
  go_upto_region 1 with fail
  generalize w.alloc (.cells #[.int .u64 s.tx, .int .u8 s.st, .int .u64 s.num, .int .u32 s.fp, .int .u32 s.lp, .int .u32 s.hp, .int .u16 s.hs] 52) = w0 at *
  obtain ⟨pl, p0, p1, p2, p3, p4, p5, p6⟩ := HB.out.cells
  go_wp2_with fail
  refine (C.out _).mono ?_
  rintro e w1 ⟨rfl, rfl⟩
  go_wp2_with fail
  go_ret
  exact ⟨rfl, B0.out⟩
theorem cmpC_neg (a b : Nat) : cmpC a b < 0 ↔ a < b := by
  unfold cmpC
  split
  · simp; omega
  · split <;> simp <;> omega
theorem cmpC_zero (a b : Nat) : cmpC a b = 0 ↔ a = b := by
  unfold cmpC
  split
  · simp; omega
  · split <;> simp <;> omega
theorem seg_before {L : List Sg} (hp : L.Pairwise (fun a b => a.tx < b.tx)) {tx t m : Nat} (hm : m < L.length) (htm : t ≤ m) (ht : t < L.length) (h : L[m].tx < tx) : L[t].tx < tx := by
  rcases Nat.lt_or_ge t m with hlt | hge
  · have := List.pairwise_iff_getElem.1 hp t m ht hm hlt
    omega
  · obtain rfl : t = m := by omega
    exact h
theorem seg_behind {L : List Sg} (hp : L.Pairwise (fun a b => a.tx < b.tx)) {tx t m : Nat} (hm : m < L.length) (htm : m ≤ t) (ht : t < L.length) (h : tx ≤ L[m].tx) : tx ≤ L[t].tx := by
  rcases Nat.lt_or_ge m t with hlt | hge
  · have := List.pairwise_iff_getElem.1 hp m t hm ht hlt
    omega
  · obtain rfl : t = m := by omega
    exact h
set_option maxHeartbeats 4000000 in
set_option maxRecDepth 100000 in
theorem segSearch_any (L : List Sg) (tx : Nat) (v : Value) (w : World) (ht : SegsAt w v L) (hp : L.Pairwise (fun a b => a.tx < b.tx)) (hnb : L.length ≤ 1000000) :
    Calls Tryz.prog 53 #[v, .int .u64 tx, .func (.func 54) #[] #[]] w fun e w' => e = .returned (.tuple #[.int .i64 (segAt L tx : Nat), .bool (segIs L tx)]) ∧ Below w.heap.size w w' := by
  have HS := Lib.hid ht
  obtain ⟨A, cp, rfl, h2, h3, h5⟩ := ht
  unfold maxLen at h3
  have HP := Lib.hid hp
  obtain ⟨n, hn⟩ : ∃ n, n = L.length := ⟨_, rfl⟩
  rw [← hn] at h2 hnb
  simp only [← hn]
  rw [← hn] at HS
  have HN := Lib.hid hn
  have CC := Lib.hid fun s W => segCmp_any s tx W
  have HF : Hid (∀ m, m ≤ L.length → (∀ i (h : i < L.length), i < m → L[i].tx < tx) → (∀ i (h : i < L.length), m ≤ i → tx ≤ L[i].tx) → segAt L tx = m) := fun m h a b => segAt_split h a b
  have HI1 : Hid (∀ h : segAt L tx < L.length, segIs L tx = decide (cmpC L[segAt L tx].tx tx = 0)) := fun h => by
    show segIs L tx = _
    rw [segIs_eq h]
    exact decide_eq_decide.2 (cmpC_zero _ _).symm
  have HI2 : Hid (¬ segAt L tx < L.length → segIs L tx = false) := fun h => segIs_end h
  clear h5 hp hn
  generalize segAt L tx = F at *
  generalize segIs L tx = I at *
  go_enter Tryz.func53, Tryz.ntmps53
  go_wp2_with fail
  go_loopg [9, 10] n (fun kx s9 s10 wr => ∃ lo hi : Nat, s9 = .int .i64 lo ∧ s10 = .int .i64 hi ∧ lo ≤ hi ∧ hi ≤ n ∧ hi - lo ≤ kx ∧ Hid (Below w.heap.size w wr) ∧ Hid ((∀ i (h : i < L.length), i < lo → L[i].tx < tx) ∧ (∀ i (h : i < L.length), hi ≤ i → tx ≤ L[i].tx)))
  case atStart => exact ⟨0, n, rfl, rfl, Nat.zero_le _, Nat.le_refl _, by omega, Lib.hid (Below.refl _ _), Lib.hid ⟨fun t h ht => absurd ht (Nat.not_lt_zero _), fun t h ht => by have := HN.out; omega⟩⟩
  case round =>
    obtain ⟨lo, hi, rfl, rfl, hlh, hin, hg, BB, I1⟩ := hrel
    by_cases hlt : lo < hi
    · obtain ⟨m, hm0⟩ : ∃ m, m = (lo + hi) / 2 := ⟨_, rfl⟩
      have hm : m < L.length := by rw [← HN.out]; omega
      obtain ⟨A2, cp2, hv2, _, _, h52⟩ := HS.out.below BB.out
      obtain ⟨b0, o0, hA2, hb0, hcell⟩ := h52 (by omega)
      have hAA : A = some ⟨b0, o0, none⟩ := by injection hv2 with e1; exact e1.trans hA2
      subst hAA
      clear hv2 hA2
      have I2 : Hid (L[m].tx < tx → ((∀ i (h : i < L.length), i < m + 1 → L[i].tx < tx) ∧ (∀ i (h : i < L.length), hi ≤ i → tx ≤ L[i].tx))) := fun h => ⟨fun i h1 h2 => seg_before HP.out hm (by omega) h1 h, I1.out.2⟩
      have I3 : Hid (¬ L[m].tx < tx → ((∀ i (h : i < L.length), i < lo → L[i].tx < tx) ∧ (∀ i (h : i < L.length), m ≤ i → tx ≤ L[i].tx))) := fun h => ⟨I1.out.1, fun i h1 h2 => seg_behind HP.out hm h2 h1 (by omega)⟩
      have C := Lib.hid (CC.out L[m])
      have k0 := hcell m hm 0 _ rfl
      have k1 := hcell m hm 1 _ rfl
      have k2 := hcell m hm 2 _ rfl
      have k3 := hcell m hm 3 _ rfl
      have k4 := hcell m hm 4 _ rfl
      have k5 := hcell m hm 5 _ rfl
      have k6 := hcell m hm 6 _ rfl
      have hcn := cmpC_neg L[m].tx tx
      clear hcell
      generalize L[m] = y at *
      clear hm
      obtain ⟨y0, y1, y2, y3, y4, y5, y6⟩ := y
      unfold sgV at C
      simp only [Nat.add_zero] at C k0 k1 k2 k3 k4 k5 k6 hcn I2 I3
      generalize cmpC y0 tx = c at *
      subst hm0
      clear h52
      by_cases hyx : c < 0
      · have I4 := Lib.hid (I2.out (hcn.1 hyx))
        clear hcn I2 I3
        go_wp2_with fail
        refine (C.out _).mono ?_
        rintro e w2 ⟨rfl, hb⟩
        have B2 := Lib.hid (BB.out.trans (hb.mono BB.out.size))
        clear k0 k1 k2 k3 k4 k5 k6 hb
        go_wp2_with fail
        go_roundg (hi - ((lo + hi) / 2 + 1))
        case measure => omega
        case rel => exact ⟨(lo + hi) / 2 + 1, hi, by rw [show ((lo : Int) + (hi : Int)) / 2 + 1 = (((lo + hi) / 2 + 1 : Nat) : Int) by omega], rfl, by omega, hin, Nat.le_refl _, B2, I4⟩
      · have I4 := Lib.hid (I3.out (fun h => hyx (hcn.2 h)))
        clear hcn I2 I3
        go_wp2_with fail
        refine (C.out _).mono ?_
        rintro e w2 ⟨rfl, hb⟩
        have B2 := Lib.hid (BB.out.trans (hb.mono BB.out.size))
        clear k0 k1 k2 k3 k4 k5 k6 hb
        go_wp2_with fail
        go_roundg ((lo + hi) / 2 - lo)
        case measure => omega
        case rel => exact ⟨lo, (lo + hi) / 2, rfl, by rw [show ((lo : Int) + (hi : Int)) / 2 = (((lo + hi) / 2 : Nat) : Int) by omega], by omega, by omega, Nat.le_refl _, B2, I4⟩
    · obtain rfl : hi = lo := by omega
      obtain rfl : F = hi := HF.out hi (by rw [← HN.out]; omega) (fun t h => I1.out.1 t h) (fun t h ht => I1.out.2 t h ht)
      by_cases hn : F < n
      · have hm : F < L.length := by rw [← HN.out]; omega
        obtain ⟨A2, cp2, hv2, _, _, h52⟩ := HS.out.below BB.out
        obtain ⟨b0, o0, hA2, hb0, hcell⟩ := h52 (by omega)
        have hAA : A = some ⟨b0, o0, none⟩ := by injection hv2 with e1; exact e1.trans hA2
        subst hAA
        clear hv2 hA2 h52
        have HI := Lib.hid (HI1.out hm)
        have C := Lib.hid (CC.out L[F])
        have k0 := hcell F hm 0 _ rfl
        have k1 := hcell F hm 1 _ rfl
        have k2 := hcell F hm 2 _ rfl
        have k3 := hcell F hm 3 _ rfl
        have k4 := hcell F hm 4 _ rfl
        have k5 := hcell F hm 5 _ rfl
        have k6 := hcell F hm 6 _ rfl
        clear hcell
        generalize L[F] = y at *
        clear hm
        obtain ⟨y0, y1, y2, y3, y4, y5, y6⟩ := y
        unfold sgV at C
        simp only [Nat.add_zero] at C k0 k1 k2 k3 k4 k5 k6 HI
        generalize cmpC y0 tx = c at *
        go_wp2_with fail
        refine (C.out _).mono ?_
        rintro e w2 ⟨rfl, hb⟩
        have B2 := Lib.hid (BB.out.trans (hb.mono BB.out.size))
        clear k0 k1 k2 k3 k4 k5 k6 hb
        go_wp2_with fail
        go_ret2
        exact ⟨by rw [HI.out]; rfl, B2.out⟩
      · have HI := Lib.hid (HI2.out (by rw [← HN.out]; omega))
        go_wp2_with fail
        go_ret2
        exact ⟨by rw [HI.out]; rfl, BB.out⟩
set_option maxHeartbeats 4000000 in
set_option maxRecDepth 100000 in
theorem segfind_any (p : Pg) (sv : Value) (tx : Nat) (w : World) (hp : p.wf) (ht : TextsAt w sv p.rows) (hb : weightB p.rows ≤ 1000000) :
    Calls Tryz.prog 32 #[pgV p sv, .int .u64 tx] w fun e w' => ∃ v, e = .returned (.tuple #[v, .int .i64 ((match segsB p with | none => 0 | some L => segAt L tx : Nat) : Nat), .bool (match segsB p with | none => false | some L => segIs L tx), .int .i64 (if (segsB p).isSome then 0 else 60)]) ∧ OwnSegs w' w.heap.size v ((segsB p).getD []) ∧ Below w.heap.size w w' := by
  have CR := Lib.hid fun W (h : TextsAt W sv p.rows) => segRows_any p sv W hp h hb
  have HT := Lib.hid ht
  have hlen : ∀ L, segsB p = some L → L.length ≤ 1000000 ∧ L.Pairwise (fun a b => a.tx < b.tx) := fun L h => by
    unfold segsB at h
    split at h
    · have h2 := segGo_all h
      have := weightB_length p.rows
      exact ⟨by omega, h2.2.2.1⟩
    · cases h
  have HL := Lib.hid hlen
  obtain ⟨n, hn⟩ : ∃ n, n = p.rows.length := ⟨_, rfl⟩
  obtain ⟨A, cp, hsv, _, _, _, _⟩ := ht
  rw [← hn] at hsv
  subst hsv
  generalize segsB p = R at *
  clear hlen hn hp hb
  unfold pgV at *
  obtain ⟨kind, level, id, lsn, next, rows⟩ := p
  simp only at *
  have X0 := Lib.hid (PgBox.new w kind level id lsn next (.slice A n cp))
  have B0 := Lib.hid (alloc_below w (.cells #[.int .u8 kind, .int .u8 level, .int .u32 id, .int .u64 lsn, .int .u32 next, .slice A n cp] 26))
  go_enter Tryz.func32, Tryz.ntmps32
  go_upto_region 1 with fail
  generalize w.alloc (.cells #[.int .u8 kind, .int .u8 level, .int .u32 id, .int .u64 lsn, .int .u32 next, .slice A n cp] 26) = w0 at *
  have T0 := Lib.hid (HT.out.below B0.out)
  obtain ⟨p0, p1, p2, p3, p4, p5, p6⟩ := X0.out.cells
  go_wp2_with fail
  refine (CR.out _ T0.out).mono ?_
  rintro e w1 ⟨v, rfl, hO, hb⟩
  have B1 := Lib.hid (below_then B0.out hb)
  have O1 := Lib.hid (OwnSegs.mono hO B0.out.size)
  clear hb hO p0 p1 p2 p3 p4 p5 p6 CR T0 X0 HT
  cases R with
  | none =>
    simp only [Option.isSome_none, Option.getD_none] at *
    (try simp only [Bool.false_eq_true, if_false] at *)
    have hv : v = .slice none 0 0 ∨ True := .inr trivial
    clear hv
    go_wp2_with fail
    refine bodyPost_ret (v := .tuple #[.slice none 0 0, .int .i64 0, .bool false, .int .i64 60]) (by simp [results, Tryz.results32, go_sem]) rfl ⟨_, rfl, OwnSegs.nil _ _, B1.out⟩
  | some L =>
    simp only [Option.isSome_some, Option.getD_some, if_true] at *
    obtain ⟨hl, hp⟩ := HL.out L rfl
    have CS := Lib.hid fun W (h : SegsAt W v L) => segSearch_any L tx v W h hp hl
    clear hl hp HL
    go_wp2_with fail
    refine (CS.out _ O1.out.at_).mono ?_
    rintro e w2 ⟨rfl, hb⟩
    have B2 := Lib.hid (below_then B1.out hb)
    have O2 := Lib.hid (O1.out.below hb)
    clear hb
    go_wp2_with fail
    refine bodyPost_ret (v := .tuple #[v, .int .i64 (segAt L tx : Nat), .bool (segIs L tx), .int .i64 0]) (by simp [results, Tryz.results32, go_sem]) rfl ⟨_, rfl, O2.out, B2.out⟩
end Go.Proofs.YtienlhnbmobinaaGreat
end

section
/- chapter 22: a row's bytes (seg.Encode, the reference's) -/
namespace Go.Proofs.YtienlhnbmobinaaGreat
open Go.RowKit
set_option linter.unusedVariables false
set_option linter.unusedSimpArgs false
/-- The frame of seg.Encode: block B has the row, B + 1 what is written. -/
structure SEn (B : Nat) (w0 : World) (s : Sg) (t : ByteArray) (w : World) : Prop where
  below : Below B w0 w
  box : w.heap[B]? = some (.cells #[.int .u64 s.tx, .int .u8 s.st, .int .u64 s.num, .int .u32 s.fp, .int .u32 s.lp, .int .u32 s.hp, .int .u16 s.hs] 52 (0, 0))
  out : w.heap[B + 1]? = some (.cells #[.string t] 9 (0, 0))
theorem SEn.step {B : Nat} {w0 w wz : World} {s : Sg} {t : ByteArray} (h : SEn B w0 s t w) (hb : Below w.heap.size w wz) (t' : ByteArray) : SEn B w0 s t' (wz.setCell ⟨B + 1, 0, none⟩ (.string t')) := by
  have hlt := blk_lt h.out
  exact ⟨(h.below.trans (hb.mono (by omega))).setCell (by show B ≤ B + 1; omega) _, set_keep ((hb.block _ (blk_lt h.box)).trans h.box) (by omega), blk_set ((hb.block _ hlt).trans h.out) 0 _⟩
theorem SEn.keep {B : Nat} {w0 w wz : World} {s : Sg} {t : ByteArray} (h : SEn B w0 s t w) (hb : Below w.heap.size w wz) : SEn B w0 s t wz :=
  ⟨h.below.trans (hb.mono (Nat.le_of_lt (blk_lt h.box))), (hb.block _ (blk_lt h.box)).trans h.box, (hb.block _ (blk_lt h.out)).trans h.out⟩
theorem SEn.new (w : World) (s : Sg) : SEn w.heap.size w s ⟨#[]⟩ ((w.alloc (.cells #[.int .u64 s.tx, .int .u8 s.st, .int .u64 s.num, .int .u32 s.fp, .int .u32 s.lp, .int .u32 s.hp, .int .u16 s.hs] 52)).alloc (.cells #[.string ⟨#[]⟩] 9)) := by
  have z1 : (w.alloc (.cells #[.int .u64 s.tx, .int .u8 s.st, .int .u64 s.num, .int .u32 s.fp, .int .u32 s.lp, .int .u32 s.hp, .int .u16 s.hs] 52)).heap.size = w.heap.size + 1 := by simp
  refine ⟨((Below.refl _ _).alloc (Nat.le_refl _) _).alloc (by simp) _, heap_keep (heap_alloc_new w _), ?_⟩
  have := heap_alloc_new (w.alloc (.cells #[.int .u64 s.tx, .int .u8 s.st, .int .u64 s.num, .int .u32 s.fp, .int .u32 s.lp, .int .u32 s.hp, .int .u16 s.hs] 52)) (.cells #[.string ⟨#[]⟩] 9)
  rw [z1] at this
  exact this
set_option maxHeartbeats 1000000 in
set_option maxRecDepth 100000 in
theorem segPutc (B n k : Nat) (s : Sg) (t x : ByteArray) (w0 w : World) (h : SEn B w0 s t w) (ht : t.size ≤ 100) (hx : x.size ≤ 8)
    (P : ∀ W, Calls Tryz.prog 57 #[.int .u64 n, .int .i64 k] W fun e w' => e = .returned (.tuple #[.string x, .bool true]) ∧ Below W.heap.size W w') :
    Calls Tryz.prog 56 #[.int .u64 n, .int .i64 k, .pointer (some ⟨B + 1, 0, none⟩)] w fun e w' => e = .returned (.tuple #[]) ∧ SEn B w0 s (t ++ x) w' := by
  have P0 := Lib.hid P
  have H := Lib.hid h
  clear P h
  go_enter Tryz.func56, Tryz.ntmps56
  go_wp2_with fail
  refine (P0.out _).mono ?_
  rintro e w1 ⟨rfl, hb⟩
  have H1 := H.out.keep hb
  have c1 := blk_cell H1.out 0
  have f1 := blk_frozen H1.out 0
  have Hb := Lib.hid hb
  clear hb H1 P0
  go_wp2_with fail
  go_end0
  exact ⟨rfl, H.out.step Hb.out _⟩
set_option maxHeartbeats 4000000 in
set_option maxRecDepth 100000 in
theorem segEncode_any (s : Sg) (w : World) (hw : s.wf) : Calls Tryz.prog 33 #[sgV s] w fun e w' => e = .returned (.tuple #[.string ⟨s.out.1.toArray⟩, .int .i64 s.out.2]) ∧ Below w.heap.size w w' := by
  have M := Lib.hid fun W => segMay_any s W
  unfold sgV at *
  have HE := Lib.hid (SEn.new w s)
  obtain ⟨h0, h1, h2, h3, h4, h5, h6⟩ := hw
  have N0 := fun W => put_8 s.tx W h0
  have z0 : (⟨(be 8 s.tx).toArray⟩ : ByteArray).size ≤ 8 := by simp [ByteArray.size, be_length]
  have N1 := fun W => put_1 s.st W (by simpa using h1)
  have z1 : (⟨(be 1 s.st).toArray⟩ : ByteArray).size ≤ 1 := by simp [ByteArray.size, be_length]
  have N2 := fun W => put_8 s.num W h2
  have z2 : (⟨(be 8 s.num).toArray⟩ : ByteArray).size ≤ 8 := by simp [ByteArray.size, be_length]
  have N3 := fun W => put_4 s.fp W h3
  have z3 : (⟨(be 4 s.fp).toArray⟩ : ByteArray).size ≤ 4 := by simp [ByteArray.size, be_length]
  have N4 := fun W => put_4 s.lp W h4
  have z4 : (⟨(be 4 s.lp).toArray⟩ : ByteArray).size ≤ 4 := by simp [ByteArray.size, be_length]
  have N5 := fun W => put_4 s.hp W h5
  have z5 : (⟨(be 4 s.hp).toArray⟩ : ByteArray).size ≤ 4 := by simp [ByteArray.size, be_length]
  have N6 := fun W => put_2 s.hs W h6
  have z6 : (⟨(be 2 s.hs).toArray⟩ : ByteArray).size ≤ 2 := by simp [ByteArray.size, be_length]
  have hfin : Hid ((((((((⟨#[]⟩ : ByteArray) ++ ⟨(be 8 s.tx).toArray⟩) ++ ⟨(be 1 s.st).toArray⟩) ++ ⟨(be 8 s.num).toArray⟩) ++ ⟨(be 4 s.fp).toArray⟩) ++ ⟨(be 4 s.lp).toArray⟩) ++ ⟨(be 4 s.hp).toArray⟩) ++ ⟨(be 2 s.hs).toArray⟩ = (⟨s.enc.toArray⟩ : ByteArray)) := by
    apply bytes_ext
    simp only [ByteArray.data_append, Array.toList_append, Sg.enc]
    simp
  generalize (⟨(be 8 s.tx).toArray⟩ : ByteArray) = x0 at N0 z0 hfin
  generalize (⟨(be 1 s.st).toArray⟩ : ByteArray) = x1 at N1 z1 hfin
  generalize (⟨(be 8 s.num).toArray⟩ : ByteArray) = x2 at N2 z2 hfin
  generalize (⟨(be 4 s.fp).toArray⟩ : ByteArray) = x3 at N3 z3 hfin
  generalize (⟨(be 4 s.lp).toArray⟩ : ByteArray) = x4 at N4 z4 hfin
  generalize (⟨(be 4 s.hp).toArray⟩ : ByteArray) = x5 at N5 z5 hfin
  generalize (⟨(be 2 s.hs).toArray⟩ : ByteArray) = x6 at N6 z6 hfin
  have C0 := Lib.hid fun (t : ByteArray) (W : World) (h : SEn w.heap.size w s t W) (ht : t.size ≤ 100) => segPutc w.heap.size s.tx 8 s t x0 w W h ht (by omega) N0
  have C1 := Lib.hid fun (t : ByteArray) (W : World) (h : SEn w.heap.size w s t W) (ht : t.size ≤ 100) => segPutc w.heap.size s.st 1 s t x1 w W h ht (by omega) N1
  have C2 := Lib.hid fun (t : ByteArray) (W : World) (h : SEn w.heap.size w s t W) (ht : t.size ≤ 100) => segPutc w.heap.size s.num 8 s t x2 w W h ht (by omega) N2
  have C3 := Lib.hid fun (t : ByteArray) (W : World) (h : SEn w.heap.size w s t W) (ht : t.size ≤ 100) => segPutc w.heap.size s.fp 4 s t x3 w W h ht (by omega) N3
  have C4 := Lib.hid fun (t : ByteArray) (W : World) (h : SEn w.heap.size w s t W) (ht : t.size ≤ 100) => segPutc w.heap.size s.lp 4 s t x4 w W h ht (by omega) N4
  have C5 := Lib.hid fun (t : ByteArray) (W : World) (h : SEn w.heap.size w s t W) (ht : t.size ≤ 100) => segPutc w.heap.size s.hp 4 s t x5 w W h ht (by omega) N5
  have C6 := Lib.hid fun (t : ByteArray) (W : World) (h : SEn w.heap.size w s t W) (ht : t.size ≤ 100) => segPutc w.heap.size s.hs 2 s t x6 w W h ht (by omega) N6
  clear N0 N1 N2 N3 N4 N5 N6
  have HO : Hid (s.out = if s.may then (s.enc, 0) else ([], 2)) := rfl
  generalize s.out = O at *
  have hl0 : s.tx < 18446744073709551616 := h0
  have hl2 : s.num < 18446744073709551616 := h2
  have hl3 : s.fp < 4294967296 := h3
  have hl4 : s.lp < 4294967296 := h4
  have hl5 : s.hp < 4294967296 := h5
  have hl6 : s.hs < 65536 := h6
  clear h0 h2 h3 h4 h5 h6
  generalize s.enc = en at *
  generalize s.may = B at *
  go_enter Tryz.func33, Tryz.ntmps33
  have i0 := blk_cell HE.out.box 0
  have i1 := blk_cell HE.out.box 1
  have i2 := blk_cell HE.out.box 2
  have i3 := blk_cell HE.out.box 3
  have i4 := blk_cell HE.out.box 4
  have i5 := blk_cell HE.out.box 5
  have i6 := blk_cell HE.out.box 6
  go_wp2_with fail
  refine (M.out _).mono ?_
  rintro e w1 ⟨rfl, hb⟩
  have H1 := Lib.hid (HE.out.keep hb)
  clear hb HE M i0 i1 i2 i3 i4 i5 i6
  cases B with
  | false =>
    have c1 := blk_cell H1.out.out 0
    have f1 := blk_frozen H1.out.out 0
    have B1 : Hid (Below w.heap.size w (w1.setCell ⟨w.heap.size + 1, 0, none⟩ (.string ⟨#[]⟩))) := H1.out.below.setCell (by show w.heap.size ≤ w.heap.size + 1; omega) _
    have R1 := blk_cell (blk_set H1.out.out 0 (.string ⟨#[]⟩)) 0
    go_wp2_with fail
    refine bodyPost_ret (v := .tuple #[.string ⟨#[]⟩, .int .i64 2]) (by simp [results, Tryz.results33, go_sem, R1]) rfl ⟨?_, B1.out⟩
    exact congrArg Ending.returned (by rw [HO.out]; rfl)
  | true =>
    have i0 := blk_cell H1.out.box 0
    go_wp2_with fail
    refine (C0.out _ _ H1.out (by have h0 : (⟨#[]⟩ : ByteArray).size = 0 := rfl; (try simp only [ByteArray.size_append]); omega)).mono ?_
    rintro e w2 ⟨rfl, h2⟩
    have H2 := Lib.hid h2
    clear h2 H1 C0 i0
    have i1 := blk_cell H2.out.box 1
    go_wp2_with fail
    refine (C1.out _ _ H2.out (by have h0 : (⟨#[]⟩ : ByteArray).size = 0 := rfl; (try simp only [ByteArray.size_append]); omega)).mono ?_
    rintro e w3 ⟨rfl, h3⟩
    have H3 := Lib.hid h3
    clear h3 H2 C1 i1
    have i2 := blk_cell H3.out.box 2
    go_wp2_with fail
    refine (C2.out _ _ H3.out (by have h0 : (⟨#[]⟩ : ByteArray).size = 0 := rfl; (try simp only [ByteArray.size_append]); omega)).mono ?_
    rintro e w4 ⟨rfl, h4⟩
    have H4 := Lib.hid h4
    clear h4 H3 C2 i2
    have i3 := blk_cell H4.out.box 3
    go_wp2_with fail
    refine (C3.out _ _ H4.out (by have h0 : (⟨#[]⟩ : ByteArray).size = 0 := rfl; (try simp only [ByteArray.size_append]); omega)).mono ?_
    rintro e w5 ⟨rfl, h5⟩
    have H5 := Lib.hid h5
    clear h5 H4 C3 i3
    have i4 := blk_cell H5.out.box 4
    go_wp2_with fail
    refine (C4.out _ _ H5.out (by have h0 : (⟨#[]⟩ : ByteArray).size = 0 := rfl; (try simp only [ByteArray.size_append]); omega)).mono ?_
    rintro e w6 ⟨rfl, h6⟩
    have H6 := Lib.hid h6
    clear h6 H5 C4 i4
    have i5 := blk_cell H6.out.box 5
    go_wp2_with fail
    refine (C5.out _ _ H6.out (by have h0 : (⟨#[]⟩ : ByteArray).size = 0 := rfl; (try simp only [ByteArray.size_append]); omega)).mono ?_
    rintro e w7 ⟨rfl, h7⟩
    have H7 := Lib.hid h7
    clear h7 H6 C5 i5
    have i6 := blk_cell H7.out.box 6
    go_wp2_with fail
    refine (C6.out _ _ H7.out (by have h0 : (⟨#[]⟩ : ByteArray).size = 0 := rfl; (try simp only [ByteArray.size_append]); omega)).mono ?_
    rintro e w8 ⟨rfl, h8⟩
    have H8 := Lib.hid h8
    clear h8 H7 C6 i6
    rw [hfin.out] at H8
    have c1 := blk_cell H8.out.out 0
    have f1 := blk_frozen H8.out.out 0
    have B1 : Hid (Below w.heap.size w (w8.setCell ⟨w.heap.size + 1, 0, none⟩ (.string ⟨en.toArray⟩))) := H8.out.below.setCell (by show w.heap.size ≤ w.heap.size + 1; omega) _
    have R1 := blk_cell (blk_set H8.out.out 0 (.string ⟨en.toArray⟩)) 0
    go_wp2_with fail
    refine bodyPost_ret (v := .tuple #[.string ⟨en.toArray⟩, .int .i64 0]) (by simp [results, Tryz.results33, go_sem, R1]) rfl ⟨?_, B1.out⟩
    exact congrArg Ending.returned (by rw [HO.out]; rfl)
end Go.Proofs.YtienlhnbmobinaaGreat
end
