/- the law PageBack, walked -/
import Derived.Test.YtienlhnbmobinaaRows
import Derived.Test.YtienlhnbmobinaaNodeWeigh
import Derived.Test.YtienlhnbmobinaaAlive06
import Derived.Test.YtienlhnbmobinaaRefEnc06
import Derived.Test.YtienlhnbmobinaaPageDecode
import Derived.Test.YtienlhnbmobinaaPageEncode
import Derived.Test.YtienlhnbmobinaaPageSame06
import Derived.Test.YtienlhnbmobinaaPagePlain
import Derived.Test.YtienlhnbmobinaaBase
import Derived.Test.YtienlhnbmobinaaPlains
import Derived.Test.YtienlhnbmobinaaTextsP
import Derived.Test.YtienlhnbmobinaaRefSeal
import Derived.Test.YtienlhnbmobinaaSum
import Derived.Deep.CutBlock
import Derived.WalkKit
import Derived.WalkLawsBesides
import Derived.WalkSpells
import Derived.LoopTactic
import Derived.WalkMore
import Derived.LoopN
import Derived.Laws.BitsAllLaws
import Derived.Laws.IdiomStrings
import Derived.BigQuiet
import Derived.Deep.QuietTactic
import Derived.Deep.DeepCutAuto
import Derived.Deep.RegionHeld3
import Derived.Deep.DrawnRows
import Derived.Lib.Hide
import Derived.Outline
import Derived.Deep.DeepMust
import Derived.Handy
namespace Go.Proofs.Ytienlhnbmobinaa
open Go.RowKit
set_option linter.unusedVariables false
set_option linter.unusedSimpArgs false

/-- A byte with one bit turned. -/
def turnB (x : UInt8) (j : Nat) : UInt8 := UInt8.ofNat (x.toNat ^^^ 2 ^ j)
theorem turnB_bit (x : UInt8) (j : Nat) (hj : j < 8) (b : Nat) : (turnB x j).toNat.testBit b = (x.toNat.testBit b ^^ decide (j = b)) := by
  have hx := x.toNat_lt
  have h2 : (2 : Nat) ^ j < 2 ^ 8 := Nat.pow_lt_pow_right (by omega) hj
  have h3 : x.toNat ^^^ 2 ^ j < 2 ^ 8 := Nat.xor_lt_two_pow hx h2
  unfold turnB
  rw [UInt8.toNat_ofNat', Nat.mod_eq_of_lt h3, Nat.testBit_xor, Nat.testBit_two_pow]
/-- The bytes with the first i of t's bits turned from bit k on. -/
def flipL (l : List UInt8) (k t : Nat) : Nat → List UInt8
  | 0 => l
  | i + 1 => if t.testBit i then (flipL l k t i).set ((k + i) / 8) (turnB ((flipL l k t i).getD ((k + i) / 8) 0) ((k + i) % 8)) else flipL l k t i
theorem flipL_length (l : List UInt8) (k t : Nat) : ∀ i, (flipL l k t i).length = l.length
  | 0 => rfl
  | i + 1 => by rw [flipL]; split <;> simp [flipL_length l k t i]
theorem flipL_bit (l : List UInt8) (k t : Nat) : ∀ i, k + i ≤ 8 * l.length → ∀ p, p < 8 * l.length → bitAt (flipL l k t i) p = (bitAt l p ^^ (decide (k ≤ p ∧ p < k + i) && t.testBit (p - k)))
  | 0, _, p, _ => by
    rw [decide_eq_false (by omega)]; simp [flipL]
  | i + 1, hi, p, hp => by
    have IH := flipL_bit l k t i (by omega) p hp
    have LN := flipL_length l k t i
    rw [flipL]
    by_cases ht : t.testBit i = true
    · rw [if_pos ht]
      by_cases hk : p / 8 = (k + i) / 8
      · have e : bitAt ((flipL l k t i).set ((k + i) / 8) (turnB ((flipL l k t i).getD ((k + i) / 8) 0) ((k + i) % 8))) p = (bitAt (flipL l k t i) p ^^ decide ((k + i) % 8 = p % 8)) := by
          unfold bitAt
          rw [hk, ← turnB_bit _ _ (by omega)]
          congr 2
          rw [List.getD_eq_getElem?_getD, List.getElem?_set_self (by omega)]
          rfl
        rw [e, IH]
        by_cases h1 : k + i = p
        · subst h1
          rw [decide_eq_false (show ¬ (k ≤ k + i ∧ k + i < k + i) by omega), decide_eq_true (show k ≤ k + i ∧ k + i < k + (i + 1) by omega), show k + i - k = i by omega, ht]
          simp
        · rw [decide_eq_false (show ¬ (k + i) % 8 = p % 8 by omega)]
          by_cases h2 : k ≤ p ∧ p < k + i
          · rw [decide_eq_true h2, decide_eq_true (show k ≤ p ∧ p < k + (i + 1) by omega)]; simp
          · rw [decide_eq_false h2, decide_eq_false (show ¬ (k ≤ p ∧ p < k + (i + 1)) by omega)]; simp
      · have e : bitAt ((flipL l k t i).set ((k + i) / 8) (turnB ((flipL l k t i).getD ((k + i) / 8) 0) ((k + i) % 8))) p = bitAt (flipL l k t i) p := by
          unfold bitAt
          rw [List.getD_eq_getElem?_getD, List.getElem?_set_ne (fun h => hk h.symm), ← List.getD_eq_getElem?_getD]
        rw [e, IH]
        by_cases h2 : k ≤ p ∧ p < k + i
        · rw [decide_eq_true h2, decide_eq_true (show k ≤ p ∧ p < k + (i + 1) by omega)]
        · rw [decide_eq_false h2, decide_eq_false (show ¬ (k ≤ p ∧ p < k + (i + 1)) by omega)]
    · rw [if_neg ht, IH]
      by_cases h1 : k + i = p
      · subst h1
        rw [show k + i - k = i by omega]
        simp [ht]
      · by_cases h2 : k ≤ p ∧ p < k + i
        · rw [decide_eq_true h2, decide_eq_true (show k ≤ p ∧ p < k + (i + 1) by omega)]
        · rw [decide_eq_false h2, decide_eq_false (show ¬ (k ≤ p ∧ p < k + (i + 1)) by omega)]
/-- What is turned is read only if nothing was. -/
theorem flip_dec {l : List UInt8} {k t : Nat} (hs : decOkB l) (ht : t < 2 ^ 32) (hk : k + 32 ≤ 8 * l.length) : decOkB (flipL l k t 32) ↔ t = 0 :=
  turned_no hs (flipL_length l k t 32) ht hk (fun p hp => by
    rw [flipL_bit l k t 32 hk p hp]
    congr 1
    unfold turned
    by_cases h1 : k ≤ p <;> by_cases h2 : p < k + 32 <;> simp [h1, h2])
theorem flip_dec2 {l : List UInt8} {k t : Nat} (hs : decOkB l) (ht : t < 2 ^ 32) (hk : k + 32 ≤ 8 * l.length) : (pgDec (flipL l k t 32)).2 = if t = 0 then 0 else 60 := by
  by_cases h : decOkB (flipL l k t 32)
  · rw [pgDec_ok h, if_pos ((flip_dec hs ht hk).1 h)]
  · rw [pgDec_no h, if_neg (fun h0 => h ((flip_dec hs ht hk).2 h0))]
theorem bit_int (t i : Nat) : (((t : Int) / 2 ^ i).tmod 2 == 1) = t.testBit i := by
  rw [Nat.testBit_eq_decide_div_mod_eq]
  have h1 : (t : Int) / 2 ^ i = ((t / 2 ^ i : Nat) : Int) := by
    rw [Int.natCast_ediv]; congr 1
  rw [h1, Int.tmod_eq_emod_of_nonneg (Int.natCast_nonneg _)]
  generalize t / 2 ^ i = z
  by_cases h : z % 2 = 1
  · rw [decide_eq_true h]; simp; omega
  · rw [decide_eq_false h]; simp; omega
theorem turn_int (y : UInt8) (j : Nat) (hj : j < 8) : bits .xor .u8 (y.toNat : Int) (2 ^ j % 256) = ((turnB y j).toNat : Int) := by
  have hy := y.toNat_lt
  have h2 : (2 : Nat) ^ j < 2 ^ 8 := Nat.pow_lt_pow_right (by omega) hj
  have h3 : y.toNat ^^^ 2 ^ j < 2 ^ 8 := Nat.xor_lt_two_pow hy h2
  have h4 : ((2 : Int) ^ j % 256) = ((2 ^ j : Nat) : Int) := by
    rw [show ((2 : Int) ^ j) = ((2 ^ j : Nat) : Int) by simp]
    generalize 2 ^ j = z at *
    omega
  rw [h4, u8_xor _ _ (by omega) (by omega)]
  unfold turnB
  rw [UInt8.toNat_ofNat', Nat.mod_eq_of_lt h3]
set_option maxHeartbeats 8000000 in
set_option maxRecDepth 100000 in
theorem pageBackLaw_any (p q : Pg) (sv tv : Value) (at_ bits : Nat) (w : World) (hp : p.wf) (hq : q.wf) (ht : TextsAt w sv p.rows) (hu : TextsAt w tv q.rows) (hzp : ∀ r ∈ p.rows, r.length ≤ 140737488351232) (hzq : ∀ r ∈ q.rows, r.length ≤ 140737488351232) (hat : at_ < 256 ^ 2) (hbits : bits < 256 ^ 4) :
    Calls Try.prog 8 #[pgV p sv, pgV q tv, .int .u16 at_, .int .u32 bits] w fun e w' => e = .returned (.bool true) ∧ Below w.heap.size w w' := by
  have AL := Lib.hid fun W => alive06_any W
  have HV := Lib.hid fun W (h : TextsAt W sv p.rows) => heavy06_any p sv W h hzp
  have HW := Lib.hid fun W (h : TextsAt W tv q.rows) => heavy06_any q tv W h hzq
  have HP := Lib.hid hp
  have HQ := Lib.hid hq
  have HT := Lib.hid ht
  have HU := Lib.hid hu
  obtain ⟨n, hn⟩ : ∃ n, n = p.rows.length := ⟨_, rfl⟩
  obtain ⟨A, cp, hsv, h2, h3, h4, h5⟩ := ht
  rw [← hn] at hsv h2
  subst hsv
  obtain ⟨m, hm⟩ : ∃ m, m = q.rows.length := ⟨_, rfl⟩
  obtain ⟨B, cq, htv, k2, k3, k4, k5⟩ := hu
  rw [← hm] at htv k2
  subst htv
  clear h4 h5 k4 k5 hzp hzq hp hq
  have hwt := weight_heavy p.rows
  have hwu := weight_heavy q.rows
  obtain ⟨kind, level, id, lsn, next, rows⟩ := p
  obtain ⟨kind2, level2, id2, lsn2, next2, rows2⟩ := q
  have HN := Lib.hid hn
  have HM := Lib.hid hm
  simp only at HV HW HT HU HN HM hwt hwu ⊢
  obtain ⟨hv, hhv⟩ : ∃ k, k = heavyB rows := ⟨_, rfl⟩
  obtain ⟨hv2, hhv2⟩ : ∃ k, k = heavyB rows2 := ⟨_, rfl⟩
  rw [← hhv] at HV hwt
  rw [← hhv2] at HW hwu
  have wle : ¬ 4096 < hv → weightB rows ≤ 20000 ∧ rows.length ≤ 4096 := by omega
  have wle2 : ¬ 4096 < hv2 → weightB rows2 ≤ 20000 ∧ rows2.length ≤ 4096 := by omega
  have WL := Lib.hid wle
  have WM := Lib.hid wle2
  clear hhv hhv2 hwt hwu wle wle2 hn hm
  unfold pgV at HV HW ⊢
  simp only at HV HW ⊢
  unfold maxLen at h3 k3
  simp only [Nat.reducePow] at hat hbits
  have P0 := Lib.hid ((PgBox.new w kind level id lsn next (.slice A n cp)).keep (.cells #[.int .u8 kind2, .int .u8 level2, .int .u32 id2, .int .u64 lsn2, .int .u32 next2, .slice B m cq] 26))
  have Q0 := Lib.hid (PgBox.new (w.alloc (.cells #[.int .u8 kind, .int .u8 level, .int .u32 id, .int .u64 lsn, .int .u32 next, .slice A n cp] 26)) kind2 level2 id2 lsn2 next2 (.slice B m cq))
  have hz1 : (w.alloc (.cells #[.int .u8 kind, .int .u8 level, .int .u32 id, .int .u64 lsn, .int .u32 next, .slice A n cp] 26)).heap.size = w.heap.size + 1 := by simp
  rw [hz1] at Q0
  clear hz1
  have B0 := Lib.hid ((alloc_below w (.cells #[.int .u8 kind, .int .u8 level, .int .u32 id, .int .u64 lsn, .int .u32 next, .slice A n cp] 26)).alloc (by simp) (.cells #[.int .u8 kind2, .int .u8 level2, .int .u32 id2, .int .u64 lsn2, .int .u32 next2, .slice B m cq] 26))
  go_enter Try.func8, Try.ntmps8
  go_upto_region 1 with fail
  generalize (w.alloc (.cells #[.int .u8 kind, .int .u8 level, .int .u32 id, .int .u64 lsn, .int .u32 next, .slice A n cp] 26)).alloc (.cells #[.int .u8 kind2, .int .u8 level2, .int .u32 id2, .int .u64 lsn2, .int .u32 next2, .slice B m cq] 26) = w0 at *
  have T0 := Lib.hid (HT.out.below B0.out)
  have U0 := Lib.hid (HU.out.below B0.out)
  obtain ⟨x0, x1, x2, x3, x4, x5, x6⟩ := P0.out.cells
  obtain ⟨y0, y1, y2, y3, y4, y5, y6⟩ := Q0.out.cells
  go_wp2_with fail
  clear x0 x1 x2 x3 x4 x5 x6 y0 y1 y2 y3 y4 y5 y6
  refine (HV.out _ T0.out).mono ?_
  rintro e w1 ⟨rfl, hb⟩
  have B1 := Lib.hid (below_then B0.out hb)
  have P1 := Lib.hid (P0.out.below hb)
  have Q1 := Lib.hid (Q0.out.below hb)
  have T1 := Lib.hid (T0.out.below hb)
  have U1 := Lib.hid (U0.out.below hb)
  clear hb B0 P0 Q0 T0 U0
  obtain ⟨x0, x1, x2, x3, x4, x5, x6⟩ := P1.out.cells
  obtain ⟨y0, y1, y2, y3, y4, y5, y6⟩ := Q1.out.cells
  by_cases hhhv : 4096 < hv
  case pos =>
    rw [decide_eq_true hhhv]
    go_wp2_with fail
    refine (AL.out _).mono ?_
    rintro e wa ⟨rfl, hba⟩
    have Ba := Lib.hid (below_then B1.out hba)
    clear hba
    go_wp2_with fail
    go_ret
    exact ⟨rfl, Ba.out⟩
  rw [decide_eq_false hhhv]
  clear x0 x1 x2 x3 x4 x5 x6 y0 y1 y2 y3 y4 y5 y6
  obtain ⟨x0, x1, x2, x3, x4, x5, x6⟩ := P1.out.cells
  obtain ⟨y0, y1, y2, y3, y4, y5, y6⟩ := Q1.out.cells
  go_wp2_with fail
  clear x0 x1 x2 x3 x4 x5 x6 y0 y1 y2 y3 y4 y5 y6
  refine (HW.out _ U1.out).mono ?_
  rintro e w2 ⟨rfl, hb⟩
  have B2 := Lib.hid (below_then B1.out hb)
  have P2 := Lib.hid (P1.out.below hb)
  have Q2 := Lib.hid (Q1.out.below hb)
  have T2 := Lib.hid (T1.out.below hb)
  have U2 := Lib.hid (U1.out.below hb)
  clear hb B1 P1 Q1 T1 U1
  obtain ⟨x0, x1, x2, x3, x4, x5, x6⟩ := P2.out.cells
  obtain ⟨y0, y1, y2, y3, y4, y5, y6⟩ := Q2.out.cells
  by_cases hhhv2 : 4096 < hv2
  case pos =>
    rw [decide_eq_true hhhv2]
    go_wp2_with fail
    refine (AL.out _).mono ?_
    rintro e wa ⟨rfl, hba⟩
    have Ba := Lib.hid (below_then B2.out hba)
    clear hba
    go_wp2_with fail
    go_ret
    exact ⟨rfl, Ba.out⟩
  rw [decide_eq_false hhhv2]
  clear x0 x1 x2 x3 x4 x5 x6 y0 y1 y2 y3 y4 y5 y6
  obtain ⟨wa1, wa2⟩ := WL.out hhhv
  obtain ⟨wb1, wb2⟩ := WM.out hhhv2
  have HWE := Lib.hid (show weightB rows ≤ 1000000 by omega)
  have HWF := Lib.hid (show weightB rows2 ≤ 1000000 by omega)
  have C1 := Lib.hid fun W (hW : TextsAt W (.slice A n cp) rows) => pageEncode_any ⟨kind, level, id, lsn, next, rows⟩ (.slice A n cp) W HP.out hW HWE.out
  have C2 := Lib.hid fun W (hW : TextsAt W (.slice B m cq) rows2) => pageEncode_any ⟨kind2, level2, id2, lsn2, next2, rows2⟩ (.slice B m cq) W HQ.out hW HWF.out
  have C7 := Lib.hid fun W (hW : TextsAt W (.slice A n cp) rows) (hX : TextsAt W (.slice B m cq) rows2) => refSame06_any ⟨kind, level, id, lsn, next, rows⟩ ⟨kind2, level2, id2, lsn2, next2, rows2⟩ (.slice A n cp) (.slice B m cq) W hW hX
  have C8 := Lib.hid fun W sv (hX : TextsAt W sv rows) (hW : TextsAt W (.slice A n cp) rows) => refSame06_any ⟨kind, level, id, lsn, next, rows⟩ ⟨kind, level, id, lsn, next, rows⟩ sv (.slice A n cp) W hX hW
  rw [decide_eq_true rfl] at C8
  have IJ := Lib.hid fun (h1 : Pg.may ⟨kind, level, id, lsn, next, rows⟩ = true) (h2 : Pg.may ⟨kind2, level2, id2, lsn2, next2, rows2⟩ = true) => encPg_inj h1 h2 HP.out HQ.out
  obtain ⟨⟨es, ec⟩, hR⟩ : ∃ R, R = pgEnc ⟨kind, level, id, lsn, next, rows⟩ := ⟨_, rfl⟩
  obtain ⟨⟨fs, fc⟩, hR2⟩ : ∃ R, R = pgEnc ⟨kind2, level2, id2, lsn2, next2, rows2⟩ := ⟨_, rfl⟩
  rw [← hR] at C1
  rw [← hR2] at C2
  unfold pgV at C1 C2 C7 C8
  simp only at C1 C2 C7 C8
  have HR := Lib.hid hR
  have HR2 := Lib.hid hR2
  clear hR hR2 HV HW WL WM HWE HWF
  obtain ⟨x0, x1, x2, x3, x4, x5, x6⟩ := P2.out.cells
  obtain ⟨y0, y1, y2, y3, y4, y5, y6⟩ := Q2.out.cells
  go_wp2_with fail
  clear x0 x1 x2 x3 x4 x5 x6 y0 y1 y2 y3 y4 y5 y6
  refine (C1.out _ T2.out).mono ?_
  rintro e w3 ⟨rfl, hb⟩
  have B3 := Lib.hid (below_then B2.out hb)
  have P3 := Lib.hid (P2.out.below hb)
  have Q3 := Lib.hid (Q2.out.below hb)
  have T3 := Lib.hid (T2.out.below hb)
  have U3 := Lib.hid (U2.out.below hb)
  clear hb B2 P2 Q2 T2 U2
  obtain ⟨x0, x1, x2, x3, x4, x5, x6⟩ := P3.out.cells
  obtain ⟨y0, y1, y2, y3, y4, y5, y6⟩ := Q3.out.cells
  go_wp2_with fail
  clear x0 x1 x2 x3 x4 x5 x6 y0 y1 y2 y3 y4 y5 y6
  refine (C2.out _ U3.out).mono ?_
  rintro e w4 ⟨rfl, hb⟩
  have B4 := Lib.hid (below_then B3.out hb)
  have P4 := Lib.hid (P3.out.below hb)
  have Q4 := Lib.hid (Q3.out.below hb)
  have T4 := Lib.hid (T3.out.below hb)
  have U4 := Lib.hid (U3.out.below hb)
  clear hb B3 P3 Q3 T3 U3
  obtain ⟨x0, x1, x2, x3, x4, x5, x6⟩ := P4.out.cells
  obtain ⟨y0, y1, y2, y3, y4, y5, y6⟩ := Q4.out.cells
  by_cases hm : Pg.may ⟨kind, level, id, lsn, next, rows⟩ = true
  case neg =>
    have he : ec = 2 := by have h := HR.out; unfold pgEnc at h; rw [if_neg hm] at h; exact (Prod.mk.inj h).2
    subst he
    have e2 : ((2 : Int) != 0) = true := rfl
    go_wp2_with fail
    refine (AL.out _).mono ?_
    rintro e wa ⟨rfl, hba⟩
    have Ba := Lib.hid (below_then B4.out hba)
    clear hba
    go_wp2_with fail
    go_ret
    exact ⟨rfl, Ba.out⟩
  have hee : es = encPg ⟨kind, level, id, lsn, next, rows⟩ ∧ ec = 0 := by have h := HR.out; unfold pgEnc at h; rw [if_pos hm] at h; exact Prod.mk.inj h
  obtain ⟨hes, rfl⟩ := hee
  have e2 : ((0 : Int) != 0) = false := rfl
  have PB := pg_back hm HP.out
  rw [← hes] at PB
  have hel := PB.1.1
  have hsl : (⟨es.toArray⟩ : ByteArray).size = es.length := rfl
  have DC := Lib.hid fun W => pageDecode_any es W (by omega)
  rw [pgDec_ok PB.1, PB.2] at DC
  have DOK := Lib.hid PB.1
  have HM1 := Lib.hid hm
  have HES := Lib.hid hes
  have Hn := HN
  clear PB hm hes HR
  clear x0 x1 x2 x3 x4 x5 x6 y0 y1 y2 y3 y4 y5 y6
  obtain ⟨x0, x1, x2, x3, x4, x5, x6⟩ := P4.out.cells
  obtain ⟨y0, y1, y2, y3, y4, y5, y6⟩ := Q4.out.cells
  go_wp2_with fail
  clear x0 x1 x2 x3 x4 x5 x6 y0 y1 y2 y3 y4 y5 y6
  refine (DC.out _).mono ?_
  rintro e w5 ⟨sv5, rfl, G, hb⟩
  simp only at G
  have G5 := Lib.hid G
  obtain ⟨A5, cp5, hv5, _, _, _, _⟩ := G
  rw [← Hn.out] at hv5
  subst hv5
  have B5 := Lib.hid (below_then B4.out hb)
  have P5 := Lib.hid (P4.out.below hb)
  have Q5 := Lib.hid (Q4.out.below hb)
  have T5 := Lib.hid (T4.out.below hb)
  have U5 := Lib.hid (U4.out.below hb)
  clear hb B4 P4 Q4 T4 U4
  obtain ⟨x0, x1, x2, x3, x4, x5, x6⟩ := P5.out.cells
  obtain ⟨y0, y1, y2, y3, y4, y5, y6⟩ := Q5.out.cells
  unfold pgV
  simp only
  go_upto_region 8 with fail
  clear x0 x1 x2 x3 x4 x5 x6 y0 y1 y2 y3 y4 y5 y6
  have BN := Lib.hid (alloc_below w5 (.cells #[.int .u8 kind, .int .u8 level, .int .u32 id, .int .u64 lsn, .int .u32 next, .slice A5 n cp5] 26))
  have D6 := Lib.hid (PgBox.new w5 kind level id lsn next (.slice A5 n cp5))
  generalize w5.alloc (.cells #[.int .u8 kind, .int .u8 level, .int .u32 id, .int .u64 lsn, .int .u32 next, .slice A5 n cp5] 26) = w6 at *
  have hb := BN.out
  clear BN
  have B6 := Lib.hid (below_then B5.out hb)
  have P6 := Lib.hid (P5.out.below hb)
  have Q6 := Lib.hid (Q5.out.below hb)
  have T6 := Lib.hid (T5.out.below hb)
  have U6 := Lib.hid (U5.out.below hb)
  have G6 := Lib.hid (G5.out.below hb)
  clear hb B5 P5 Q5 T5 U5 G5
  clear DC
  obtain ⟨x0, x1, x2, x3, x4, x5, x6⟩ := P6.out.cells
  obtain ⟨y0, y1, y2, y3, y4, y5, y6⟩ := Q6.out.cells
  obtain ⟨z0, z1, z2, z3, z4, z5, z6⟩ := D6.out.cells
  have BQ := Lib.hid (Below.refl w6.heap.size w6)
  go_cut [70] (fun s w' => s = .bool false ∧ Hid (Below w6.heap.size w6 w'))
  case first =>
    go_wp2_with fail
    refine (C8.out _ _ G6.out T6.out).mono ?_
    rintro e wc ⟨rfl, hb⟩
    have T9 := Lib.hid (T6.out.below hb)
    have U9 := Lib.hid (U6.out.below hb)
    have P9 := Lib.hid (P6.out.below hb)
    have Q9 := Lib.hid (Q6.out.below hb)
    have B9 := Lib.hid hb
    clear hb x0 x1 x2 x3 x4 x5 x6 y0 y1 y2 y3 y4 y5 y6 z0 z1 z2 z3 z4 z5 z6
    obtain ⟨x0, x1, x2, x3, x4, x5, x6⟩ := P9.out.cells
    obtain ⟨y0, y1, y2, y3, y4, y5, y6⟩ := Q9.out.cells
    by_cases hq : Pg.may ⟨kind2, level2, id2, lsn2, next2, rows2⟩ = true
    case neg =>
      have he : fc = 2 := by have h := HR2.out; unfold pgEnc at h; rw [if_neg hq] at h; exact (Prod.mk.inj h).2
      subst he
      have e4 : ((2 : Int) == 0) = false := rfl
      go_wp2_with fail
      go_meet
      exact ⟨rfl, B9⟩
    have hff : fs = encPg ⟨kind2, level2, id2, lsn2, next2, rows2⟩ ∧ fc = 0 := by have h := HR2.out; unfold pgEnc at h; rw [if_pos hq] at h; exact Prod.mk.inj h
    obtain ⟨hfs, rfl⟩ := hff
    have e4 : ((0 : Int) == 0) = true := rfl
    have e5 : (es == fs) = decide ((⟨kind, level, id, lsn, next, rows⟩ : Pg) = ⟨kind2, level2, id2, lsn2, next2, rows2⟩) := by
      rw [HES.out, hfs]
      by_cases h : (⟨kind, level, id, lsn, next, rows⟩ : Pg) = ⟨kind2, level2, id2, lsn2, next2, rows2⟩
      · rw [decide_eq_true h, h]; simp
      · rw [decide_eq_false h]
        exact beq_false_of_ne fun h2 => h ((IJ.out HM1.out hq).1 h2)
    clear hfs
    generalize decide ((⟨kind, level, id, lsn, next, rows⟩ : Pg) = ⟨kind2, level2, id2, lsn2, next2, rows2⟩) = ee at *
    have e6 : (ee != ee) = false := by simp
    go_wp2_with fail
    refine (C7.out _ T9.out U9.out).mono ?_
    rintro e wd ⟨rfl, hb⟩
    have B10 := Lib.hid (below_then B9.out hb)
    clear hb x0 x1 x2 x3 x4 x5 x6 y0 y1 y2 y3 y4 y5 y6
    go_wp2_with fail
    go_meet
    exact ⟨rfl, B10⟩
  case rest =>
  obtain ⟨hs9, HBQ⟩ := hcut
  subst hs9
  have hb := HBQ.out
  generalize wc = w7 at *
  clear HBQ BQ x0 x1 x2 x3 x4 x5 x6 y0 y1 y2 y3 y4 y5 y6 z0 z1 z2 z3 z4 z5 z6 C1 C2 C7 C8 IJ HR2
  have B7 := Lib.hid (below_then B6.out hb)
  have P7 := Lib.hid (P6.out.below hb)
  have Q7 := Lib.hid (Q6.out.below hb)
  have T7 := Lib.hid (T6.out.below hb)
  have U7 := Lib.hid (U6.out.below hb)
  have G7 := Lib.hid (G6.out.below hb)
  have D7 := Lib.hid (D6.out.below hb)
  clear hb B6 P6 Q6 T6 U6 G6 D6
  clear P7
  clear Q7
  clear T7
  clear U7
  clear G7
  clear D7
  obtain ⟨k, hk⟩ : ∃ k, k = at_ % 4065 := ⟨_, rfl⟩
  have hk4 : k + 31 < 4096 := by omega
  have htm : (at_ : Int).tmod 4065 = (k : Int) := by rw [Int.tmod_eq_emod_of_nonneg (by omega)]; omega
  have hta : (at_ : Int) ≤ 65535 := by omega
  have hta0 : (0 : Int) ≤ (at_ : Int) := by omega
  clear hk
  go_wp2_with fail
  refine upon_row _ 9 70 5 _ Try.underlying9 Try.underlying70 Try.underlying5 (fun W cap hW hrow => ?_)
  have HX := Lib.hid (below_then B7.out hW)
  have HROW := Lib.hid hrow
  rw [hsl]
  obtain ⟨gx, hg⟩ : ∃ gx, gx = w7.heap.size := ⟨_, rfl⟩
  have hgle : w.heap.size ≤ gx := by rw [hg]; exact B7.out.size
  rw [← hg] at HROW ⊢
  clear hW hrow hg
  have hel8 := hel
  go_wp2_with fail
  go_loopw [17] (fun s17 wr => ∃ i : Nat, i ≤ 32 ∧ s17 = .int .i64 i ∧ Hid (RowAt wr gx (flipL es k bits i)) ∧ Hid (Below w.heap.size w wr)) (fun v _ => 32 - (intOf v).toNat)
  case atStart => exact ⟨0, Nat.zero_le _, rfl, HROW, HX⟩
  case round =>
    obtain ⟨i, hi, rfl, HA, HB⟩ := hrel
    clear HX HROW B7
    have HL := Lib.hid (flipL_length es k bits i)
    by_cases hi4 : i < 32
    · have hii : (i : Int) < 32 := by omega
      have hi0 : (0 : Int) ≤ (i : Int) := by omega
      have hbt := bit_int bits i
      by_cases hb : bits.testBit i = true
      · rw [hb] at hbt
        have hq : (k + i) / 8 < 512 := by omega
        have hfz := HA.out.frozen ((k + i) / 8) (by rw [HL.out]; omega)
        have hcx := HA.out.cell ((k + i) / 8) (by rw [HL.out]; omega)
        have hgd : (flipL es k bits i)[(k + i) / 8]'(by rw [HL.out]; omega) = (flipL es k bits i).getD ((k + i) / 8) 0 := by simp [List.getD_eq_getElem?_getD, show (k + i) / 8 < (flipL es k bits i).length by rw [HL.out]; omega]
        rw [hgd] at hcx
        have T1 := Lib.hid (show flipL es k bits (i + 1) = (flipL es k bits i).set ((k + i) / 8) (turnB ((flipL es k bits i).getD ((k + i) / 8) 0) ((k + i) % 8)) from by rw [flipL, if_pos hb])
        have HS := Lib.hid (HA.out.set ((k + i) / 8) (turnB ((flipL es k bits i).getD ((k + i) / 8) 0) ((k + i) % 8)) (by rw [HL.out]; omega))
        rw [← T1.out] at HS
        generalize (flipL es k bits i).getD ((k + i) / 8) 0 = y at *
        clear T1 HA HL hgd hb
        have hti := turn_int y ((k + i) % 8) (by omega)
        go_wp2_with fail
        go_roundw
        case rel => exact ⟨i + 1, by omega, by go_num, HS, HB.out.setCell hgle _⟩
        case measure => simp [intOf] <;> omega
      · have T1 := Lib.hid (show flipL es k bits (i + 1) = flipL es k bits i from by rw [flipL, if_neg hb])
        have hbf : bits.testBit i = false := by simpa using hb
        rw [hbf] at hbt
        clear hb hbf HL
        go_wp2_with fail
        go_roundw
        case rel => exact ⟨i + 1, by omega, by go_num, by show RowAt _ _ _; rw [T1.out]; exact HA.out, HB⟩
        case measure => simp [intOf] <;> omega
    · obtain rfl : i = 32 := by omega
      have hlm : (flipL es k bits 32).length = 512 := by rw [HL.out]; exact hel
      have FD := flip_dec2 (l := es) (k := k) (t := bits) DOK.out (by simpa using hbits) (by omega)
      generalize flipL es k bits 32 = F at *
      have DF := Lib.hid fun W => pageDecode_any F W (by omega)
      obtain ⟨⟨⟨qa, qb, qc, qd, qe, rowsQ⟩, er⟩, hR1⟩ : ∃ R, R = pgDec F := ⟨_, rfl⟩
      rw [← hR1] at DF FD
      simp only at FD
      clear hR1 HL
      go_wp2_with fail
      refine upon_str HA.out hlm 70 5 9 Try.underlying70 Try.underlying5 Try.underlying9 ?_
      rw [sumBytes]
      go_wp2_with fail
      refine (DF.out _).mono ?_
      rintro e w8 ⟨sv8, rfl, G, hb⟩
      simp only at G
      obtain ⟨A8, cp8, hv8, _, _, _, _⟩ := G
      subst hv8
      have B8 := Lib.hid (below_then HB.out hb)
      clear hb HA HB DF
      unfold pgV
      simp only
      go_upto_region 18 with fail
      have B9 := Lib.hid (B8.out.trans ((alloc_below w8 (.cells #[.int .u8 qa, .int .u8 qb, .int .u32 qc, .int .u64 qd, .int .u32 qe, .slice A8 rowsQ.length cp8] 26)).mono B8.out.size))
      generalize w8.alloc (.cells #[.int .u8 qa, .int .u8 qb, .int .u32 qc, .int .u64 qd, .int .u32 qe, .slice A8 rowsQ.length cp8] 26) = w9 at *
      by_cases hb0 : bits = 0
      · have e7 : ((bits : Int) == 0) = true := by simp; omega
        rw [if_pos hb0] at FD
        subst FD
        go_wp2_with fail
        refine (AL.out _).mono ?_
        rintro e wa ⟨rfl, hba⟩
        have Ba := Lib.hid (below_then B9.out hba)
        clear hba
        go_wp2_with fail
        go_ret
        exact ⟨rfl, Ba.out⟩
      · have e7 : ((bits : Int) == 0) = false := by simp; omega
        rw [if_neg hb0] at FD
        subst FD
        go_wp2_with fail
        refine (AL.out _).mono ?_
        rintro e wa ⟨rfl, hba⟩
        have Ba := Lib.hid (below_then B9.out hba)
        clear hba
        go_wp2_with fail
        go_ret
        exact ⟨rfl, Ba.out⟩

end Go.Proofs.Ytienlhnbmobinaa
