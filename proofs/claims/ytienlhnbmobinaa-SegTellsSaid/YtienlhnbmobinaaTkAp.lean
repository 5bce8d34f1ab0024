/- Kept of our texts for this claim: OpWrite OpIn RefGet OpEnc RefBytes11 OpDec RefOne OneLaw RefDec11 -/
import Derived.Test.YtienlhnbmobinaaRows
import Derived.Test.YtienlhnbmobinaaTkAo
import Derived.Test.YtienlhnbmobinaaTkAn
import Derived.Test.YtienlhnbmobinaaTkAm
import Derived.Test.YtienlhnbmobinaaTkAi
import Derived.Test.YtienlhnbmobinaaTkAc
import Derived.Test.YtienlhnbmobinaaTkAg
import Derived.Test.YtienlhnbmobinaaTkAj
import Derived.Test.YtienlhnbmobinaaTkAl
import Derived.Test.YtienlhnbmobinaaTkAf
import Derived.Test.YtienlhnbmobinaaTkAa
import Derived.Test.YtienlhnbmobinaaTkAb
import Derived.WalkKit
import Derived.WalkLawsBesides
import Derived.WalkSpells
import Derived.LoopTactic
import Derived.WalkMore
import Derived.LoopN
import Derived.Laws.BitsAllLaws
import Derived.Laws.IdiomStrings
import Derived.BigQuiet
import Derived.Deep.QuietTactic
import Derived.Deep.DeepCutAuto
import Derived.Deep.RegionHeld3
import Derived.Deep.DrawnRows
import Derived.Lib.Hide
import Derived.Outline
import Derived.Deep.DeepMust
import Derived.Handy
import Derived.Test.YtienlhnbmobinaaTkAd
section
/- op.write -/
namespace Go.Proofs.Ytienlhnbmobinaa
open Go.RowKit
set_option linter.unusedVariables false
set_option linter.unusedSimpArgs false
theorem OAt.set5 {w : World} {g : Nat} {o : Od} {sv : Value} (h : OAt w g o sv) (sv' : Value) : OAt (w.setCell ⟨g, 5, none⟩ sv') g o sv' := by
  unfold OAt at *
  have h1 := blk_set h 5 sv'
  simpa using h1
theorem flat_len (rows : List (List UInt8)) : (rows.flatMap pieceB).length = lensB rows + 2 * rows.length := by
  induction rows with
  | nil => rfl
  | cons r rs ih =>
    rw [List.flatMap_cons, List.length_append, ih, lensB_cons]
    simp [pieceB, be_length]
    omega
theorem enc_len (o : Od) (h : o.only.may = true) : o.enc.length ≤ 2000 := by
  have hk := (may_of h).2.1
  rw [(only_kind o).1] at hk
  rw [← enc_only o hk]
  have hh := h
  unfold Od.may at h
  rw [Bool.and_eq_true, Bool.and_eq_true, Bool.and_eq_true, decide_eq_true_eq, decide_eq_true_eq, decide_eq_true_eq, decide_eq_true_eq] at h
  obtain ⟨_, ⟨_, _, _, _, h1⟩, h2, _⟩ := h
  generalize o.only = p at *
  have hf := flat_len p.rows
  unfold Od.enc
  split <;> simp only [List.length_append, be_length, pieceB] <;> omega
theorem own_ge {w : World} {base n : Nat} {e : TypeId} {v : Value} {xs : List Value} (h : w.ownsRow base e 1 v n xs) : ∀ j, v.ownBlock = some j → base ≤ j := by
  obtain ⟨b, c, rfl, _, _, _⟩ := own_form h
  rcases h.2 with ⟨h1, _⟩ | ⟨g, cap, cur, h1, hg, _⟩
  · injection h1 with h1 _ _
    subst h1
    intro j hj
    simp [Value.ownBlock] at hj
  · injection h1 with h1 _ _
    subst h1
    intro j hj
    simp [Value.ownBlock] at hj
    omega
theorem own_lt {w : World} {base n : Nat} {e : TypeId} {v : Value} {xs : List Value} (h : w.ownsRow base e 1 v n xs) : ∀ j, v.ownBlock = some j → j < w.heap.size := by
  obtain ⟨b, c, rfl, _, _, _⟩ := own_form h
  rcases h.2 with ⟨h1, _⟩ | ⟨g, cap, cur, h1, hg, hb, _⟩
  · injection h1 with h1 _ _
    subst h1
    intro j hj
    simp [Value.ownBlock] at hj
  · injection h1 with h1 _ _
    subst h1
    intro j hj
    simp [Value.ownBlock] at hj
    rw [← hj]
    exact blk_lt hb
theorem own_mono {w : World} {base base' n : Nat} {e : TypeId} {v : Value} {xs : List Value} (h : w.ownsRow base e 1 v n xs) (hb : base' ≤ base) : w.ownsRow base' e 1 v n xs := by
  refine ⟨h.1, ?_⟩
  rcases h.2 with h1 | ⟨g, cap, cur, h1, hg, h2⟩
  · exact .inl h1
  · exact .inr ⟨g, cap, cur, h1, by omega, h2⟩
theorem only_lv (o : Od) (h : o.lv < 256) : o.only.lv < 256 := by
  unfold Od.only
  split <;> first | exact h | exact (by decide : (0 : Nat) < 256)
/-- What write answers. -/
def Od.out (o : Od) : List UInt8 := if o.only.may = true then o.enc else []
/-- Bounds of an op's texts. -/
def Od.small (o : Od) : Prop := o.text.length ≤ 65535 ∧ o.rows.length ≤ 65535 ∧ ∀ r ∈ o.rows, r.length ≤ 65535
set_option maxHeartbeats 4000000 in
set_option maxRecDepth 100000 in
theorem write_any (o : Od) (sv : Value) (w : World) (ht : TextsAt w sv o.rows) (hw : o.wf) (hs : o.small) :
    Calls Try.prog 132 #[odV o sv] w fun e w' => e = .returned (.tuple #[.string ⟨o.out.toArray⟩, .bool o.may]) ∧ Below w.heap.size w w' := by
  have HT := Lib.hid fun W (hB : Below w.heap.size w W) => ht.below hB
  have hlaw := Lib.hid (writeC_law o hw)
  obtain ⟨A, cp, rfl, _⟩ := ht
  obtain ⟨n, hn⟩ : ∃ n, n = o.rows.length := ⟨_, rfl⟩
  rw [← hn] at HT ⊢
  have HW := Lib.hid hw
  have HS := Lib.hid hs
  have HN := Lib.hid hn
  have HCL := Lib.hid fun W (hB : Below w.heap.size w W) => cloneTexts_any (.slice A n cp) o.rows W (HT.out W hB) (by have := hs.2.1; omega)
  obtain ⟨P0, P1, B0⟩ := two_boxes w o o (.slice A n cp) (.slice A n cp)
  have B0 := Lib.hid B0
  obtain ⟨out, hout⟩ : ∃ x, x = o.out := ⟨_, rfl⟩
  obtain ⟨my, hmy⟩ : ∃ x, x = o.may := ⟨_, rfl⟩
  rw [← hout, ← hmy]
  have HO := Lib.hid hout
  have HM := Lib.hid hmy
  clear hout hmy hw hs hn
  unfold odV
  go_enter Try.func132, Try.ntmps132
  go_wp2_with fail
  generalize (w.alloc (.cells #[.int .u8 o.kind, .int .u32 o.page, .int .i64 o.at_, .int .i64 o.off, .string ⟨o.text.toArray⟩, .slice A n cp, .int .u8 o.pk, .int .u8 o.lv, .int .u32 o.nx] 28)).alloc (.cells #[.int .u8 o.kind, .int .u32 o.page, .int .i64 o.at_, .int .i64 o.off, .string ⟨o.text.toArray⟩, .slice A n cp, .int .u8 o.pk, .int .u8 o.lv, .int .u32 o.nx] 28) = w0 at *
  refine (HCL.out w0 B0.out).mono ?_
  rintro e w1 ⟨v, rfl, hv, hb⟩
  have Q0 := P0.below hb
  have Q1 := P1.below hb
  obtain ⟨x0, x1, x2, x3, x4, x5, x6, x7, x8⟩ := Q1.cells
  have f5 := blk_frozen (g := w.heap.size + 1) Q1 5
  have B1 := Lib.hid (below_then B0.out hb)
  have s0 : w.heap.size + 2 ≤ w0.heap.size := by have := blk_lt P1; omega
  have s1 : w0.heap.size ≤ w1.heap.size := hb.size
  have hvd := own_ge hv
  have hvl := own_lt hv
  have K0 : KAt ((w1.setCell ⟨w.heap.size + 1, 5, none⟩ v).alloc (.cells #[.pointer (some ⟨w.heap.size + 1, 0, none⟩), .string ⟨#[]⟩, .int .i64 0, .bool false, .bool false] 206)) w1.heap.size (w.heap.size + 1) ⟨o, [], 0, false, false⟩ := by
    have h := heap_alloc_new (w1.setCell ⟨w.heap.size + 1, 5, none⟩ v) (.cells #[.pointer (some ⟨w.heap.size + 1, 0, none⟩), .string ⟨#[]⟩, .int .i64 0, .bool false, .bool false] 206)
    rwa [set_lt] at h
  have O2 : OAt ((w1.setCell ⟨w.heap.size + 1, 5, none⟩ v).alloc (.cells #[.pointer (some ⟨w.heap.size + 1, 0, none⟩), .string ⟨#[]⟩, .int .i64 0, .bool false, .bool false] 206)) (w.heap.size + 1) o v := heap_keep (OAt.set5 Q1 v)
  have R2 : ((w1.setCell ⟨w.heap.size + 1, 5, none⟩ v).alloc (.cells #[.pointer (some ⟨w.heap.size + 1, 0, none⟩), .string ⟨#[]⟩, .int .i64 0, .bool false, .bool false] 206)).ownsRow (w.heap.size + 1) 9 1 v o.rows.length (strs o.rows) := own_below (own_set_far (own_mono hv (by omega)) (fun k hk => by have := hvd k hk; omega)) (alloc_below _ _)
  have B2 := Lib.hid ((B1.out.setCell (p := ⟨w.heap.size + 1, 5, none⟩) (by simp) v).alloc (by rw [set_lt]; omega) (.cells #[.pointer (some ⟨w.heap.size + 1, 0, none⟩), .string ⟨#[]⟩, .int .i64 0, .bool false, .bool false] 206))
  have Q2 : OAt ((w1.setCell ⟨w.heap.size + 1, 5, none⟩ v).alloc (.cells #[.pointer (some ⟨w.heap.size + 1, 0, none⟩), .string ⟨#[]⟩, .int .i64 0, .bool false, .bool false] 206)) w.heap.size o (.slice A n cp) := heap_keep (set_keep Q0 (by omega))
  have C2 := Lib.hid (show CAt ((w1.setCell ⟨w.heap.size + 1, 5, none⟩ v).alloc (.cells #[.pointer (some ⟨w.heap.size + 1, 0, none⟩), .string ⟨#[]⟩, .int .i64 0, .bool false, .bool false] 206)) (w.heap.size + 1) w1.heap.size (w.heap.size + 1) ⟨o, [], 0, false, false⟩ from ⟨K0, by omega, by omega, by omega, v, O2, R2, fun j hj => by have := hvd j hj; have := hvl j hj; omega⟩)
  obtain ⟨bv, cv, rfl, _, _, _⟩ := own_form hv
  have Q2 := Lib.hid Q2
  clear K0 O2 R2 Q0 Q1 hv hb P0 P1 x0 x1 x2 x3 x4 x6 x7 x8 B0 B1
  go_wp2_with fail
  have hz2 : ((w1.setCell ⟨w.heap.size + 1, 5, none⟩ (.slice bv o.rows.length cv)).alloc (.cells #[.pointer (some ⟨w.heap.size + 1, 0, none⟩), .string ⟨#[]⟩, .int .i64 0, .bool false, .bool false] 206)).heap.size = w1.heap.size + 1 := by simp
  refine (op_any _ (w.heap.size + 1) w1.heap.size (w.heap.size + 1) ⟨o, [], 0, false, false⟩ C2.out (by rw [hz2]; omega) ⟨HW.out, HS.out.1, HS.out.2.1, HS.out.2.2, Nat.zero_le _, Nat.zero_le _⟩ (fun h => by cases h)).mono ?_
  rintro e w2 ⟨rfl, hC, hB⟩
  have hwc : Cd.op ⟨o, [], 0, false, false⟩ = writeC o := rfl
  rw [hwc] at hC
  have B3 := Lib.hid (B2.out.trans (hB.mono (Nat.le_succ _)))
  have Q3 : OAt w2 w.heap.size o (.slice A n cp) := (hB.block _ (by omega)).trans Q2.out
  have hq3 : w.heap.size < w2.heap.size := blk_lt Q3
  have hgl : w1.heap.size < w2.heap.size := by have := hB.size; rw [hz2] at this; omega
  obtain ⟨hk, _⟩ := hC
  clear hB C2 B2 Q2 hwc hz2 hvd hvl f5 x5
  cases hm : o.only.may with
  | false =>
    have hb := hlaw.out.2 hm
    obtain ⟨_, q0, q1, q2, q3, q4⟩ := hk.cells
    rw [hb] at q4
    have HOut : Hid (out = []) := by show _ = _; rw [HO.out]; unfold Od.out; rw [hm]; rfl
    have HMy : Hid (my = false) := by show _ = _; rw [HM.out, may_eq, hm]; rfl
    clear hk hb hlaw q0 q1 q2 q3
    go_wp2_with fail
    go_ret2
    exact ⟨by rw [HOut.out, HMy.out]; rfl, B3.out⟩
  | true =>
    obtain ⟨hwc, hkd⟩ := hlaw.out.1 hm
    rw [hwc] at hk
    obtain ⟨_, q0, q1, q2, q3, q4⟩ := hk.cells
    have hel := enc_len o hm
    have hre : readC o.enc = ⟨o.only, o.enc, o.enc.length, true, false⟩ := by
      have h := readC_enc o.only hm (only_lv o HW.out.2.2.2.2.2.1) []
      rw [List.append_nil, enc_only o hkd] at h
      exact h
    have HOut : Hid (out = o.enc) := by show _ = _; rw [HO.out]; unfold Od.out; rw [hm]; rfl
    have HMy : Hid (my = decide (o.only = o)) := by show _ = _; rw [HM.out, may_eq, hm, Bool.true_and]; exact decide_eq_decide.2 ⟨fun h => h.symm, fun h => h.symm⟩
    have RD := Lib.hid (read_any o.enc w2 (by omega))
    rw [hre] at RD
    have K3 : KAt w2 w1.heap.size (w.heap.size + 1) ⟨o, o.enc, 0, false, false⟩ := hk
    clear hk hlaw hwc hkd hre q0 q2 q3 HO HM
    obtain ⟨p, hp⟩ : ∃ p, p = o.only := ⟨_, rfl⟩
    rw [← hp] at RD HMy hm
    have HR : Hid (p.rows.length ≤ 488) := by
      unfold Od.may at hm
      rw [Bool.and_eq_true, Bool.and_eq_true, decide_eq_true_eq, decide_eq_true_eq] at hm
      exact hm.2.1.2.2.2.2
    have hee : ((o.enc.length : Int) == (o.enc.length : Int)) = true := by simp
    have hes : (⟨o.enc.toArray⟩ : ByteArray).size = o.enc.length := by simp [ByteArray.size]
    clear hp hm Q2 B0 s0 hel
    go_wp2_with fail
    refine RD.out.mono ?_
    rintro e w3 ⟨sv', rfl, ht', hb⟩
    have P3 := Q3.below hb
    have K4 := K3.below hb
    have hz3 : w2.heap.size ≤ w3.heap.size := hb.size
    have B4 := Lib.hid (B3.out.trans (hb.mono (by omega)))
    have X3 := OAt.new w3 p sv'
    have HSM := Lib.hid fun W (hB : Below w3.heap.size w3 W) (hB2 : Below w.heap.size w W) => opSame_any p o sv' (.slice A n cp) W (ht'.below hB) (HT.out W hB2) (by have := HR.out; omega) (by have := HS.out.2.1; omega)
    obtain ⟨b', c', rfl, _⟩ := ht'
    unfold odV at HSM ⊢
    clear RD Q3 K3 hb HCL
    obtain ⟨m, hm⟩ : ∃ m, m = p.rows.length := ⟨_, rfl⟩
    rw [← hm] at X3 HSM ⊢
    clear hm
    have P4 := P3.below (alloc_below w3 (.cells #[.int .u8 p.kind, .int .u32 p.page, .int .i64 p.at_, .int .i64 p.off, .string ⟨p.text.toArray⟩, .slice b' m c', .int .u8 p.pk, .int .u8 p.lv, .int .u32 p.nx] 28))
    have K5 := K4.below (alloc_below w3 (.cells #[.int .u8 p.kind, .int .u32 p.page, .int .i64 p.at_, .int .i64 p.off, .string ⟨p.text.toArray⟩, .slice b' m c', .int .u8 p.pk, .int .u8 p.lv, .int .u32 p.nx] 28))
    have B5 := Lib.hid (B4.out.alloc (by omega) (.cells #[.int .u8 p.kind, .int .u32 p.page, .int .i64 p.at_, .int .i64 p.off, .string ⟨p.text.toArray⟩, .slice b' m c', .int .u8 p.pk, .int .u8 p.lv, .int .u32 p.nx] 28))
    have A5 := Lib.hid (alloc_below w3 (.cells #[.int .u8 p.kind, .int .u32 p.page, .int .i64 p.at_, .int .i64 p.off, .string ⟨p.text.toArray⟩, .slice b' m c', .int .u8 p.pk, .int .u8 p.lv, .int .u32 p.nx] 28))
    go_upto_region 8 with fail
    generalize w3.alloc (.cells #[.int .u8 p.kind, .int .u32 p.page, .int .i64 p.at_, .int .i64 p.off, .string ⟨p.text.toArray⟩, .slice b' m c', .int .u8 p.pk, .int .u8 p.lv, .int .u32 p.nx] 28) = w4 at *
    have D5 := Lib.hid B5.out.drew
    have E5 := Lib.hid A5.out.drew
    have D1 : Hid (Below w4.heap.size w4 w4.drew) := Lib.hid ((Below.refl _ _).drew)
    obtain ⟨x0, x1, x2, x3, x4, x5, x6, x7, x8⟩ := X3.cells
    obtain ⟨y0, y1, y2, y3, y4, y5, y6, y7, y8⟩ := P4.cells
    have k1 := K5.cells.2.2.1
    have KC := Lib.hid fun W (hW : Below w4.heap.size w4 W) => (⟨keep_cell hW k1, keep_cell hW x0, keep_cell hW x1, keep_cell hW x2, keep_cell hW x3, keep_cell hW x4, keep_cell hW x5, keep_cell hW x6, keep_cell hW x7, keep_cell hW x8, keep_cell hW y0, keep_cell hW y1, keep_cell hW y2, keep_cell hW y3, keep_cell hW y4, keep_cell hW y5, keep_cell hW y6, keep_cell hW y7, keep_cell hW y8⟩ : W.cell? ⟨w1.heap.size, 1, none⟩ = some (.string ⟨o.enc.toArray⟩) ∧ W.cell? ⟨w3.heap.size, 0, none⟩ = some (.int .u8 p.kind) ∧ W.cell? ⟨w3.heap.size, 1, none⟩ = some (.int .u32 p.page) ∧ W.cell? ⟨w3.heap.size, 2, none⟩ = some (.int .i64 p.at_) ∧ W.cell? ⟨w3.heap.size, 3, none⟩ = some (.int .i64 p.off) ∧ W.cell? ⟨w3.heap.size, 4, none⟩ = some (.string ⟨p.text.toArray⟩) ∧ W.cell? ⟨w3.heap.size, 5, none⟩ = some ((.slice b' m c')) ∧ W.cell? ⟨w3.heap.size, 6, none⟩ = some (.int .u8 p.pk) ∧ W.cell? ⟨w3.heap.size, 7, none⟩ = some (.int .u8 p.lv) ∧ W.cell? ⟨w3.heap.size, 8, none⟩ = some (.int .u32 p.nx) ∧ W.cell? ⟨w.heap.size, 0, none⟩ = some (.int .u8 o.kind) ∧ W.cell? ⟨w.heap.size, 1, none⟩ = some (.int .u32 o.page) ∧ W.cell? ⟨w.heap.size, 2, none⟩ = some (.int .i64 o.at_) ∧ W.cell? ⟨w.heap.size, 3, none⟩ = some (.int .i64 o.off) ∧ W.cell? ⟨w.heap.size, 4, none⟩ = some (.string ⟨o.text.toArray⟩) ∧ W.cell? ⟨w.heap.size, 5, none⟩ = some ((.slice A n cp)) ∧ W.cell? ⟨w.heap.size, 6, none⟩ = some (.int .u8 o.pk) ∧ W.cell? ⟨w.heap.size, 7, none⟩ = some (.int .u8 o.lv) ∧ W.cell? ⟨w.heap.size, 8, none⟩ = some (.int .u32 o.nx))
    clear q1 q4 P3 K4 X3 P4 K5
    clear x0 x1 x2 x3 x4 x5 x6 x7 x8 y0 y1 y2 y3 y4 y5 y6 y7 y8 k1
    go_region_held3 (fun W => W.cell? ⟨w1.heap.size, 1, none⟩ = some (.string ⟨o.enc.toArray⟩) ∧ W.cell? ⟨w3.heap.size, 0, none⟩ = some (.int .u8 p.kind) ∧ W.cell? ⟨w3.heap.size, 1, none⟩ = some (.int .u32 p.page) ∧ W.cell? ⟨w3.heap.size, 2, none⟩ = some (.int .i64 p.at_) ∧ W.cell? ⟨w3.heap.size, 3, none⟩ = some (.int .i64 p.off) ∧ W.cell? ⟨w3.heap.size, 4, none⟩ = some (.string ⟨p.text.toArray⟩) ∧ W.cell? ⟨w3.heap.size, 5, none⟩ = some ((.slice b' m c')) ∧ W.cell? ⟨w3.heap.size, 6, none⟩ = some (.int .u8 p.pk) ∧ W.cell? ⟨w3.heap.size, 7, none⟩ = some (.int .u8 p.lv) ∧ W.cell? ⟨w3.heap.size, 8, none⟩ = some (.int .u32 p.nx) ∧ W.cell? ⟨w.heap.size, 0, none⟩ = some (.int .u8 o.kind) ∧ W.cell? ⟨w.heap.size, 1, none⟩ = some (.int .u32 o.page) ∧ W.cell? ⟨w.heap.size, 2, none⟩ = some (.int .i64 o.at_) ∧ W.cell? ⟨w.heap.size, 3, none⟩ = some (.int .i64 o.off) ∧ W.cell? ⟨w.heap.size, 4, none⟩ = some (.string ⟨o.text.toArray⟩) ∧ W.cell? ⟨w.heap.size, 5, none⟩ = some ((.slice A n cp)) ∧ W.cell? ⟨w.heap.size, 6, none⟩ = some (.int .u8 o.pk) ∧ W.cell? ⟨w.heap.size, 7, none⟩ = some (.int .u8 o.lv) ∧ W.cell? ⟨w.heap.size, 8, none⟩ = some (.int .u32 o.nx))
      (first
        | (with_reducible exact KC.out _ D1.out)
        | (with_reducible exact KC.out _ hb)
        | exact KC.out _ D1.out)
      (first
        | (go_at_call 183; refine (HSM.out _ E5.out D5.out).mono ?_; rintro e w5 ⟨rfl, hb0⟩; have hb := below_then D1.out hb0; clear hb0))
    have B6 := Lib.hid (B5.out.trans (hb.mono (by have := B5.out.size; omega)))
    go_wp2_with fail
    go_ret2
    exact ⟨by rw [HOut.out, HMy.out]; rfl, B6.out⟩
end Go.Proofs.Ytienlhnbmobinaa
end

section
/- ops that came in; slices of ops -/
namespace Go.Proofs.Ytienlhnbmobinaa
open Go.RowKit
set_option linter.unusedVariables false
set_option linter.unusedSimpArgs false
/-- An op with where its rows lie. -/
structure Ov where
  o : Od
  b : Option Addr
  c : Nat
def Ov.sv (e : Ov) : Value := .slice e.b e.o.rows.length e.c
def Ov.cell (e : Ov) : List Value := [.int .u8 e.o.kind, .int .u32 e.o.page, .int .i64 e.o.at_, .int .i64 e.o.off, .string ⟨e.o.text.toArray⟩, e.sv, .int .u8 e.o.pk, .int .u8 e.o.lv, .int .u32 e.o.nx]
/-- A slice of ops. -/
def OpsAt (w : World) (v : Value) (L : List Ov) : Prop :=
  ∃ A cp, v = .slice A L.length cp ∧ L.length ≤ cp ∧ cp ≤ maxLen ∧ (0 < L.length → ∃ b o, A = some ⟨b, o, none⟩ ∧ b < w.heap.size ∧ ∀ j (h : j < L.length), ∀ i v, L[j].cell[i]? = some v → w.cell? ⟨b, o + j * 9 + i, none⟩ = some v) ∧ ∀ e ∈ L, TextsAt w e.sv e.o.rows
theorem OpsAt.below {w w' : World} {v : Value} {L : List Ov} (h : OpsAt w v L) (hb : Below w.heap.size w w') : OpsAt w' v L := by
  obtain ⟨A, cp, h1, h2, h3, h4, h5⟩ := h
  refine ⟨A, cp, h1, h2, h3, fun h0 => ?_, fun e he => (h5 e he).below hb⟩
  obtain ⟨b, o, k1, k2, k3⟩ := h4 h0
  exact ⟨b, o, k1, Nat.lt_of_lt_of_le k2 hb.size, fun j h i v hv => keep_cell hb (k3 j h i v hv)⟩
theorem OpsAt.nil (w : World) : OpsAt w (.slice none 0 0) [] := ⟨none, 0, rfl, Nat.le_refl _, Nat.zero_le _, fun h => absurd h (Nat.lt_irrefl 0), fun e he => by cases he⟩
section
open Go.ChangeShapes Go.WideShapes Go.Deep
variable {H : Type} {enc : TypeId × Value → H} {P : Program} {w : World} {base : Nat} {spare : Nat → Bool} {held : Bool}
end
end Go.Proofs.Ytienlhnbmobinaa
end

section
/- ref11: get.num and get.text -/
namespace Go.Proofs.Ytienlhnbmobinaa
open Go.RowKit
set_option linter.unusedVariables false
set_option linter.unusedSimpArgs false
/-- What stands in a get. -/
structure Gd where
  s : List UInt8
  at_ : Nat
  bad : Bool
def Gd.num (g : Gd) (k : Nat) : Nat × Gd := if decide (g.at_ + k ≤ g.s.length) && !g.bad then (rdNum g.s g.at_ k, ⟨g.s, g.at_ + k, false⟩) else (0, ⟨g.s, g.at_ + k, true⟩)
def Gd.text (g : Gd) : List UInt8 × Gd :=
  if decide ((g.num 2).2.at_ + (g.num 2).1 ≤ g.s.length) && !(g.num 2).2.bad then (rdText g.s (g.num 2).2.at_ (g.num 2).1, ⟨g.s, (g.num 2).2.at_ + (g.num 2).1, false⟩) else ([], ⟨g.s, (g.num 2).2.at_ + (g.num 2).1, true⟩)
theorem kept_drew {w w' : World} {p : Nat → Prop} (h : OthersKept w w' p) : OthersKept w w'.drew p := ⟨h.os, h.tape, h.output, h.size, h.block⟩
theorem num_bounds (g : Gd) (k : Nat) (hk : k = 1 ∨ k = 2 ∨ k = 4) : (g.num k).1 < 256 ^ k ∧ (g.num k).2.at_ = g.at_ + k ∧ (g.num k).2.s = g.s := by
  unfold Gd.num
  split
  · exact ⟨rdNum_fits _ _ _, rfl, rfl⟩
  · exact ⟨Nat.pos_of_ne_zero (by simp), rfl, rfl⟩
end Go.Proofs.Ytienlhnbmobinaa
end

section
/- op.May and op.Encode -/
namespace Go.Proofs.Ytienlhnbmobinaa
open Go.RowKit
set_option linter.unusedVariables false
set_option linter.unusedSimpArgs false
set_option maxHeartbeats 2000000 in
set_option maxRecDepth 100000 in
theorem opMay_any (o : Od) (sv : Value) (w : World) (ht : TextsAt w sv o.rows) (hw : o.wf) (hs : o.small) :
    Calls Try.prog 83 #[odV o sv] w fun e w' => e = .returned (.bool o.may) ∧ Below w.heap.size w w' := by
  have HT := Lib.hid fun W (hB : Below w.heap.size w W) => write_any o sv W (ht.below hB) hw hs
  obtain ⟨A, cp, rfl, _⟩ := ht
  obtain ⟨n, hn⟩ : ∃ n, n = o.rows.length := ⟨_, rfl⟩
  have X := OAt.new w o (.slice A n cp)
  have B := Lib.hid (alloc_below w (.cells #[.int .u8 o.kind, .int .u32 o.page, .int .i64 o.at_, .int .i64 o.off, .string ⟨o.text.toArray⟩, .slice A n cp, .int .u8 o.pk, .int .u8 o.lv, .int .u32 o.nx] 28))
  rw [← hn] at HT ⊢
  clear hn
  unfold odV at HT ⊢
  go_enter Try.func83, Try.ntmps83
  go_wp2_with fail
  refine (HT.out _ B.out).mono ?_
  rintro e w1 ⟨rfl, hb⟩
  have HB := Lib.hid (below_then B.out hb)
  go_wp2_with fail
  go_ret
  exact ⟨rfl, HB.out⟩
end Go.Proofs.Ytienlhnbmobinaa
end

section
/- ref11: num and Bytes -/
namespace Go.Proofs.Ytienlhnbmobinaa
open Go.RowKit
set_option linter.unusedVariables false
set_option linter.unusedSimpArgs false
theorem may_bounds {o : Od} (h : o.may = true) : (1 ≤ o.kind ∧ o.kind ≤ 8) ∧ o.page ≤ 1024 ∧ o.nx ≤ 1024 ∧ o.pk ≤ 5 ∧ (0 ≤ o.at_ ∧ o.at_ ≤ 488) ∧ (0 ≤ o.off ∧ o.off ≤ 488) ∧ o.rows.length ≤ 488 ∧ o.text.length + lensB o.rows ≤ 488 := by
  unfold Od.may at h
  rw [Bool.and_eq_true, Bool.and_eq_true, Bool.and_eq_true, decide_eq_true_eq, decide_eq_true_eq, decide_eq_true_eq, decide_eq_true_eq] at h
  omega
end Go.Proofs.Ytienlhnbmobinaa
end

section
/- op.Decode -/
namespace Go.Proofs.Ytienlhnbmobinaa
open Go.RowKit
set_option linter.unusedVariables false
set_option linter.unusedSimpArgs false
/-- An op made here, and its rows. -/
def OwnOps (w : World) (base : Nat) (v : Value) (L : List Ov) : Prop := w.ownsRow base 28 9 v L.length (L.flatMap Ov.cell) ∧ ∀ e ∈ L, w.ownsRow base 9 1 e.sv e.o.rows.length (strs e.o.rows)
theorem OwnOps.nil (w : World) (base : Nat) : OwnOps w base (.slice none 0 0) [] := ⟨World.ownsRow_nil _ _ _ _, fun e he => by cases he⟩
theorem OwnOps.below {w w' : World} {base : Nat} {v : Value} {L : List Ov} (h : OwnOps w base v L) (hb : Below w.heap.size w w') : OwnOps w' base v L := ⟨own_below h.1 hb, fun e he => own_below (h.2 e he) hb⟩
theorem own_other {w : World} {base base' n m size : Nat} {u v : Value} {xs ys : List Value} (h : w.ownsRow base 9 1 u n xs) (h2 : w.ownsRow base' 28 size v m ys) : u.ownBlock = none ∨ u.ownBlock ≠ v.ownBlock := by
  rcases h.2 with ⟨rfl, _⟩ | ⟨g, cap, cur, rfl, _, hg, _⟩
  · exact .inl rfl
  · right
    rcases h2.2 with ⟨rfl, _⟩ | ⟨g2, cap2, cur2, rfl, _, hg2, _⟩
    · intro e; cases e
    · intro e
      injection e with e
      simp only at e
      rw [e, hg2] at hg
      simp at hg
theorem OwnOps.snoc {w w2 : World} {base : Nat} {v v' : Value} {L : List Ov} {e : Ov} (h : OwnOps w base v L) (he : w.ownsRow base 9 1 e.sv e.o.rows.length (strs e.o.rows)) (ho : w2.ownsRow base 28 9 v' (L.length + 1) (L.flatMap Ov.cell ++ e.cell)) (hg : w.grownBy w2 v.ownBlock) : OwnOps w2 base v' (L ++ [e]) := by
  refine ⟨?_, fun x hx => ?_⟩
  · rw [List.length_append, List.flatMap_append]
    simpa using ho
  · rcases List.mem_append.1 hx with hx | hx
    · exact (h.2 x hx).kept hg (own_other (h.2 x hx) h.1)
    · rw [List.mem_singleton.1 hx]
      exact he.kept hg (own_other he h.1)
theorem flat_getO (l : List Ov) : ∀ (j i : Nat) (v : Value) (h : j < l.length), l[j].cell[i]? = some v → (l.flatMap Ov.cell)[j * 9 + i]? = some v := by
  induction l with
  | nil => intro j i v h; simp at h
  | cons r rs ih =>
    intro j i v h hv
    have hr : r.cell.length = 9 := rfl
    rw [List.flatMap_cons]
    cases j with
    | zero =>
      have hi : i < 9 := by have := (List.getElem?_eq_some_iff.1 hv).1; rw [List.getElem_cons_zero, hr] at this; exact this
      rw [List.getElem?_append_left (by rw [hr]; omega)]
      simpa using hv
    | succ j =>
      rw [List.getElem?_append_right (by rw [hr]; omega), hr, show (j + 1) * 9 + i - 9 = j * 9 + i by omega]
      exact ih j i v (by simpa using h) (by simpa using hv)
theorem OwnOps.at_ {w : World} {base : Nat} {v : Value} {L : List Ov} (h : OwnOps w base v L) : OpsAt w v L := by
  obtain ⟨⟨hl, h1⟩, h2⟩ := h
  rcases h1 with ⟨rfl, h0⟩ | ⟨g, cap, cur, rfl, hg, hb, hn, hc, hz, ht⟩
  · have : L = [] := List.eq_nil_of_length_eq_zero h0
    subst this
    exact OpsAt.nil w
  · refine ⟨_, cap, rfl, hn, hc, fun h0 => ⟨g, 0, rfl, blk_lt hb, fun j hj i v hv => ?_⟩, fun e he => (texts_own (h2 e he)).1⟩
    have h3 := flat_getO L j i v hj hv
    rw [← ht, List.getElem?_take] at h3
    split at h3
    · rw [show 0 + j * 9 + i = j * 9 + i by omega, blk_cell hb]
      simpa using h3
    · cases h3
theorem drop_extract (s : List UInt8) (a : Nat) : (⟨s.toArray⟩ : ByteArray).extract a s.length = ⟨(s.drop a).toArray⟩ := by
  apply bytes_ext
  rw [ByteArray.data_extract]
  simp
  exact List.take_of_length_le (by simp)
/-- What a list's bytes are read as. -/
def decGo : Nat → List UInt8 → Option (List Od)
  | 0, r => if r.length = 0 then some [] else none
  | k + 1, r => if (readC r).bad = true then none else (decGo k (r.drop (readC r).at_)).map ((readC r).o :: ·)
def decL (s : List UInt8) : Option (List Od) := if 1 ≤ s.length ∧ rdNum s 0 1 ≤ 32 then decGo (rdNum s 0 1) (s.drop 1) else none
def decE (s : List UInt8) : Int := if (decL s).isSome = true then 0 else 7
/-- What decoding leaves. -/
def DecPost (w : World) (s : List UInt8) (e : Ending) (w' : World) : Prop := ∃ v L, e = .returned (.tuple #[v, .int .i64 (decE s)]) ∧ OwnOps w' w.heap.size v L ∧ L.map Ov.o = (decL s).getD [] ∧ Below w.heap.size w w'
theorem DecPost.no {w w' : World} {s : List UInt8} (h : decL s = none) (hb : Below w.heap.size w w') : DecPost w s (.returned (.tuple #[.slice none 0 0, .int .i64 7])) w' := by
  refine ⟨_, [], by unfold decE; rw [h]; rfl, OwnOps.nil _ _, by rw [h]; rfl, hb⟩
end Go.Proofs.Ytienlhnbmobinaa
end

section
/- ref11: get.one -/
namespace Go.Proofs.Ytienlhnbmobinaa
open Go.RowKit
set_option linter.unusedVariables false
set_option linter.unusedSimpArgs false
def Gd.rows : Nat → Gd → List (List UInt8) × Gd
  | 0, g => ([], g)
  | k + 1, g => if g.bad = true then ([], g) else (g.text.1 :: (Gd.rows k g.text.2).1, (Gd.rows k g.text.2).2)
def Gd.parts (k pg : Nat) (g : Gd) : Od × Gd :=
  match k with
  | 1 => (⟨k, pg, 0, 0, [], [], (g.num 1).1, ((g.num 1).2.num 1).1, (((g.num 1).2.num 1).2.num 4).1⟩, (((g.num 1).2.num 1).2.num 4).2)
  | 2 => (⟨k, pg, (g.num 2).1, 0, (g.num 2).2.text.1, [], 0, 0, 0⟩, (g.num 2).2.text.2)
  | 3 => (⟨k, pg, (g.num 2).1, 0, (g.num 2).2.text.1, [], 0, 0, 0⟩, (g.num 2).2.text.2)
  | 4 => (⟨k, pg, (g.num 2).1, 0, [], [], 0, 0, 0⟩, (g.num 2).2)
  | 5 => (⟨k, pg, (g.num 2).1, 0, [], [], 0, 0, 0⟩, (g.num 2).2)
  | 6 => (⟨k, pg, 0, 0, [], (Gd.rows (g.num 2).1 (g.num 2).2).1, 0, 0, 0⟩, (Gd.rows (g.num 2).1 (g.num 2).2).2)
  | 7 => (⟨k, pg, 0, 0, [], [], 0, 0, (g.num 4).1⟩, (g.num 4).2)
  | 8 => (⟨k, pg, (g.num 2).1, ((g.num 2).2.num 2).1, ((g.num 2).2.num 2).2.text.1, [], 0, 0, 0⟩, ((g.num 2).2.num 2).2.text.2)
  | _ => (⟨k, pg, 0, 0, [], [], 0, 0, 0⟩, g)
def Gd.one (g : Gd) : Od × Gd := Gd.parts (g.num 1).1 ((g.num 1).2.num 4).1 ((g.num 1).2.num 4).2
theorem text_to {g : Gd} {t : List UInt8} {c : Gd} (h : (t, c) = g.text) : c.at_ ≤ g.at_ + 65537 ∧ c.s = g.s ∧ t.length ≤ 65535 ∧ (c.bad = false → c.at_ ≤ c.s.length) := by
  have hb := num_bounds g 2 (by omega)
  simp only [Nat.reducePow] at hb
  unfold Gd.text at h
  split at h
  · rename_i hc
    rw [Bool.and_eq_true, decide_eq_true_eq] at hc
    simp only [Prod.mk.injEq] at h
    obtain ⟨rfl, rfl⟩ := h
    refine ⟨by show _ + _ ≤ _; omega, rfl, ?_, fun _ => hc.1⟩
    unfold rdText
    split
    · rw [List.length_take]; omega
    · simp
  · simp only [Prod.mk.injEq] at h
    obtain ⟨rfl, rfl⟩ := h
    exact ⟨by show _ + _ ≤ _; omega, rfl, by simp, fun h => by cases h⟩
end Go.Proofs.Ytienlhnbmobinaa
end

section
/- ref11: what get.one reads -/
namespace Go.Proofs.Ytienlhnbmobinaa
open Go.RowKit
set_option linter.unusedVariables false
set_option linter.unusedSimpArgs false
/-- What is read, told twice. -/
def Rel {α : Type} (x : Option (α × List UInt8)) (y : α × Gd) (s : List UInt8) : Prop := (y.2.bad = false → y.2.s = s ∧ y.2.at_ ≤ s.length ∧ x = some (y.1, s.drop y.2.at_)) ∧ (y.2.bad = true → x = none)
theorem Rel.none {α β : Type} {x : Option (α × List UInt8)} {y : α × Gd} {z : β × Gd} {s : List UInt8} {f : α × List UInt8 → Option (β × List UInt8)} (h : Rel x y s) (hb : y.2.bad = true) (hz : z.2.bad = true) : Rel (x.bind f) z s := by
  rw [h.2 hb]
  exact ⟨fun h => (by rw [hz] at h; cases h), fun _ => rfl⟩
theorem text_len (g : Gd) : g.text.1.length ≤ 65535 := by
  obtain ⟨⟨t, c⟩, q⟩ : ∃ q, q = g.text := ⟨_, rfl⟩
  rw [← q]
  exact (text_to q).2.2.1
end Go.Proofs.Ytienlhnbmobinaa
end

section
/- ref11: Decode -/
namespace Go.Proofs.Ytienlhnbmobinaa
open Go.RowKit
set_option linter.unusedVariables false
set_option linter.unusedSimpArgs false
theorem own_mono9 {w : World} {base base' size n : Nat} {e : TypeId} {v : Value} {xs : List Value} (h : w.ownsRow base e size v n xs) (hb : base' ≤ base) : w.ownsRow base' e size v n xs := by
  refine ⟨h.1, ?_⟩
  rcases h.2 with h1 | ⟨g, cap, cur, h1, hg, h2⟩
  · exact .inl h1
  · exact .inr ⟨g, cap, cur, h1, by omega, h2⟩
theorem own_ge9 {w : World} {base size n : Nat} {e : TypeId} {v : Value} {xs : List Value} (h : w.ownsRow base e size v n xs) : ∀ j, v.ownBlock = some j → base ≤ j := fun j hj => (h.lt j hj).1
theorem OwnOps.mono {w : World} {base base' : Nat} {v : Value} {L : List Ov} (h : OwnOps w base v L) (hb : base' ≤ base) : OwnOps w base' v L := ⟨own_mono9 h.1 hb, fun e he => own_mono9 (h.2 e he) hb⟩
theorem OwnOps.kept {w w' : World} {base g : Nat} {v : Value} {L : List Ov} (h : OwnOps w base v L) (hk : OthersKept w w' (fun x => x = g)) (hg : g < base) : OwnOps w' base v L :=
  ⟨hk.owns h.1 (fun j hj e => by have := own_ge9 h.1 j hj; omega), fun e he => hk.owns (h.2 e he) (fun j hj e => by have := own_ge9 (h.2 _ he) j hj; omega)⟩
end Go.Proofs.Ytienlhnbmobinaa
end
