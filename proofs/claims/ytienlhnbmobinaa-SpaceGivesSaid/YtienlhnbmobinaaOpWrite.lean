/- op.write -/
import Derived.Test.YtienlhnbmobinaaRows
import Derived.Test.YtienlhnbmobinaaOpRead
import Derived.Test.YtienlhnbmobinaaOpGo
import Derived.Test.YtienlhnbmobinaaOpFold
import Derived.Test.YtienlhnbmobinaaOpRows
import Derived.Test.YtienlhnbmobinaaOpPart
import Derived.Test.YtienlhnbmobinaaOpPiece
import Derived.Test.YtienlhnbmobinaaOpNum
import Derived.Test.YtienlhnbmobinaaOpPlain
import Derived.Test.YtienlhnbmobinaaOpWord
import Derived.Test.YtienlhnbmobinaaOpSame
import Derived.Test.YtienlhnbmobinaaOpLaw
import Derived.Test.YtienlhnbmobinaaTextsMove
import Derived.Test.YtienlhnbmobinaaTextsP
import Derived.Test.YtienlhnbmobinaaPlains
import Derived.Test.YtienlhnbmobinaaBase
import Derived.WalkKit
import Derived.WalkLawsBesides
import Derived.WalkSpells
import Derived.LoopTactic
import Derived.WalkMore
import Derived.LoopN
import Derived.Laws.BitsAllLaws
import Derived.Laws.IdiomStrings
import Derived.BigQuiet
import Derived.Deep.QuietTactic
import Derived.Deep.DeepCutAuto
import Derived.Deep.RegionHeld3
import Derived.Deep.DrawnRows
import Derived.Lib.Hide
import Derived.Outline
import Derived.Deep.DeepMust
import Derived.Handy
namespace Go.Proofs.Ytienlhnbmobinaa
open Go.RowKit
set_option linter.unusedVariables false
set_option linter.unusedSimpArgs false

theorem OAt.set5 {w : World} {g : Nat} {o : Od} {sv : Value} (h : OAt w g o sv) (sv' : Value) : OAt (w.setCell ⟨g, 5, none⟩ sv') g o sv' := by
  unfold OAt at *
  have h1 := blk_set h 5 sv'
  simpa using h1
theorem flat_len (rows : List (List UInt8)) : (rows.flatMap pieceB).length = lensB rows + 2 * rows.length := by
  induction rows with
  | nil => rfl
  | cons r rs ih =>
    rw [List.flatMap_cons, List.length_append, ih, lensB_cons]
    simp [pieceB, be_length]
    omega
theorem enc_len (o : Od) (h : o.only.may = true) : o.enc.length ≤ 2000 := by
  have hk := (may_of h).2.1
  rw [(only_kind o).1] at hk
  rw [← enc_only o hk]
  have hh := h
  unfold Od.may at h
  rw [Bool.and_eq_true, Bool.and_eq_true, Bool.and_eq_true, decide_eq_true_eq, decide_eq_true_eq, decide_eq_true_eq, decide_eq_true_eq] at h
  obtain ⟨_, ⟨_, _, _, _, h1⟩, h2, _⟩ := h
  generalize o.only = p at *
  have hf := flat_len p.rows
  unfold Od.enc
  split <;> simp only [List.length_append, be_length, pieceB] <;> omega
theorem own_ge {w : World} {base n : Nat} {e : TypeId} {v : Value} {xs : List Value} (h : w.ownsRow base e 1 v n xs) : ∀ j, v.ownBlock = some j → base ≤ j := by
  obtain ⟨b, c, rfl, _, _, _⟩ := own_form h
  rcases h.2 with ⟨h1, _⟩ | ⟨g, cap, cur, h1, hg, _⟩
  · injection h1 with h1 _ _
    subst h1
    intro j hj
    simp [Value.ownBlock] at hj
  · injection h1 with h1 _ _
    subst h1
    intro j hj
    simp [Value.ownBlock] at hj
    omega
theorem own_lt {w : World} {base n : Nat} {e : TypeId} {v : Value} {xs : List Value} (h : w.ownsRow base e 1 v n xs) : ∀ j, v.ownBlock = some j → j < w.heap.size := by
  obtain ⟨b, c, rfl, _, _, _⟩ := own_form h
  rcases h.2 with ⟨h1, _⟩ | ⟨g, cap, cur, h1, hg, hb, _⟩
  · injection h1 with h1 _ _
    subst h1
    intro j hj
    simp [Value.ownBlock] at hj
  · injection h1 with h1 _ _
    subst h1
    intro j hj
    simp [Value.ownBlock] at hj
    rw [← hj]
    exact blk_lt hb
theorem own_mono {w : World} {base base' n : Nat} {e : TypeId} {v : Value} {xs : List Value} (h : w.ownsRow base e 1 v n xs) (hb : base' ≤ base) : w.ownsRow base' e 1 v n xs := by
  refine ⟨h.1, ?_⟩
  rcases h.2 with h1 | ⟨g, cap, cur, h1, hg, h2⟩
  · exact .inl h1
  · exact .inr ⟨g, cap, cur, h1, by omega, h2⟩
theorem only_lv (o : Od) (h : o.lv < 256) : o.only.lv < 256 := by
  unfold Od.only
  split <;> first | exact h | exact (by decide : (0 : Nat) < 256)
/-- What write answers. -/
def Od.out (o : Od) : List UInt8 := if o.only.may = true then o.enc else []
/-- Bounds of an op's texts. -/
def Od.small (o : Od) : Prop := o.text.length ≤ 65535 ∧ o.rows.length ≤ 65535 ∧ ∀ r ∈ o.rows, r.length ≤ 65535
set_option maxHeartbeats 4000000 in
set_option maxRecDepth 100000 in
theorem write_any (o : Od) (sv : Value) (w : World) (ht : TextsAt w sv o.rows) (hw : o.wf) (hs : o.small) :
    Calls Try.prog 132 #[odV o sv] w fun e w' => e = .returned (.tuple #[.string ⟨o.out.toArray⟩, .bool o.may]) ∧ Below w.heap.size w w' := by
  have HT := Lib.hid fun W (hB : Below w.heap.size w W) => ht.below hB
  have hlaw := Lib.hid (writeC_law o hw)
  obtain ⟨A, cp, rfl, _⟩ := ht
  obtain ⟨n, hn⟩ : ∃ n, n = o.rows.length := ⟨_, rfl⟩
  rw [← hn] at HT ⊢
  have HW := Lib.hid hw
  have HS := Lib.hid hs
  have HN := Lib.hid hn
  have HCL := Lib.hid fun W (hB : Below w.heap.size w W) => cloneTexts_any (.slice A n cp) o.rows W (HT.out W hB) (by have := hs.2.1; omega)
  obtain ⟨P0, P1, B0⟩ := two_boxes w o o (.slice A n cp) (.slice A n cp)
  have B0 := Lib.hid B0
  obtain ⟨out, hout⟩ : ∃ x, x = o.out := ⟨_, rfl⟩
  obtain ⟨my, hmy⟩ : ∃ x, x = o.may := ⟨_, rfl⟩
  rw [← hout, ← hmy]
  have HO := Lib.hid hout
  have HM := Lib.hid hmy
  clear hout hmy hw hs hn
  unfold odV
  go_enter Try.func132, Try.ntmps132
  go_wp2_with fail
  generalize (w.alloc (.cells #[.int .u8 o.kind, .int .u32 o.page, .int .i64 o.at_, .int .i64 o.off, .string ⟨o.text.toArray⟩, .slice A n cp, .int .u8 o.pk, .int .u8 o.lv, .int .u32 o.nx] 28)).alloc (.cells #[.int .u8 o.kind, .int .u32 o.page, .int .i64 o.at_, .int .i64 o.off, .string ⟨o.text.toArray⟩, .slice A n cp, .int .u8 o.pk, .int .u8 o.lv, .int .u32 o.nx] 28) = w0 at *
  refine (HCL.out w0 B0.out).mono ?_
  rintro e w1 ⟨v, rfl, hv, hb⟩
  have Q0 := P0.below hb
  have Q1 := P1.below hb
  obtain ⟨x0, x1, x2, x3, x4, x5, x6, x7, x8⟩ := Q1.cells
  have f5 := blk_frozen (g := w.heap.size + 1) Q1 5
  have B1 := Lib.hid (below_then B0.out hb)
  have s0 : w.heap.size + 2 ≤ w0.heap.size := by have := blk_lt P1; omega
  have s1 : w0.heap.size ≤ w1.heap.size := hb.size
  have hvd := own_ge hv
  have hvl := own_lt hv
  have K0 : KAt ((w1.setCell ⟨w.heap.size + 1, 5, none⟩ v).alloc (.cells #[.pointer (some ⟨w.heap.size + 1, 0, none⟩), .string ⟨#[]⟩, .int .i64 0, .bool false, .bool false] 206)) w1.heap.size (w.heap.size + 1) ⟨o, [], 0, false, false⟩ := by
    have h := heap_alloc_new (w1.setCell ⟨w.heap.size + 1, 5, none⟩ v) (.cells #[.pointer (some ⟨w.heap.size + 1, 0, none⟩), .string ⟨#[]⟩, .int .i64 0, .bool false, .bool false] 206)
    rwa [set_lt] at h
  have O2 : OAt ((w1.setCell ⟨w.heap.size + 1, 5, none⟩ v).alloc (.cells #[.pointer (some ⟨w.heap.size + 1, 0, none⟩), .string ⟨#[]⟩, .int .i64 0, .bool false, .bool false] 206)) (w.heap.size + 1) o v := heap_keep (OAt.set5 Q1 v)
  have R2 : ((w1.setCell ⟨w.heap.size + 1, 5, none⟩ v).alloc (.cells #[.pointer (some ⟨w.heap.size + 1, 0, none⟩), .string ⟨#[]⟩, .int .i64 0, .bool false, .bool false] 206)).ownsRow (w.heap.size + 1) 9 1 v o.rows.length (strs o.rows) := own_below (own_set_far (own_mono hv (by omega)) (fun k hk => by have := hvd k hk; omega)) (alloc_below _ _)
  have B2 := Lib.hid ((B1.out.setCell (p := ⟨w.heap.size + 1, 5, none⟩) (by simp) v).alloc (by rw [set_lt]; omega) (.cells #[.pointer (some ⟨w.heap.size + 1, 0, none⟩), .string ⟨#[]⟩, .int .i64 0, .bool false, .bool false] 206))
  have Q2 : OAt ((w1.setCell ⟨w.heap.size + 1, 5, none⟩ v).alloc (.cells #[.pointer (some ⟨w.heap.size + 1, 0, none⟩), .string ⟨#[]⟩, .int .i64 0, .bool false, .bool false] 206)) w.heap.size o (.slice A n cp) := heap_keep (set_keep Q0 (by omega))
  have C2 := Lib.hid (show CAt ((w1.setCell ⟨w.heap.size + 1, 5, none⟩ v).alloc (.cells #[.pointer (some ⟨w.heap.size + 1, 0, none⟩), .string ⟨#[]⟩, .int .i64 0, .bool false, .bool false] 206)) (w.heap.size + 1) w1.heap.size (w.heap.size + 1) ⟨o, [], 0, false, false⟩ from ⟨K0, by omega, by omega, by omega, v, O2, R2, fun j hj => by have := hvd j hj; have := hvl j hj; omega⟩)
  obtain ⟨bv, cv, rfl, _, _, _⟩ := own_form hv
  have Q2 := Lib.hid Q2
  clear K0 O2 R2 Q0 Q1 hv hb P0 P1 x0 x1 x2 x3 x4 x6 x7 x8 B0 B1
  go_wp2_with fail
  have hz2 : ((w1.setCell ⟨w.heap.size + 1, 5, none⟩ (.slice bv o.rows.length cv)).alloc (.cells #[.pointer (some ⟨w.heap.size + 1, 0, none⟩), .string ⟨#[]⟩, .int .i64 0, .bool false, .bool false] 206)).heap.size = w1.heap.size + 1 := by simp
  refine (op_any _ (w.heap.size + 1) w1.heap.size (w.heap.size + 1) ⟨o, [], 0, false, false⟩ C2.out (by rw [hz2]; omega) ⟨HW.out, HS.out.1, HS.out.2.1, HS.out.2.2, Nat.zero_le _, Nat.zero_le _⟩ (fun h => by cases h)).mono ?_
  rintro e w2 ⟨rfl, hC, hB⟩
  have hwc : Cd.op ⟨o, [], 0, false, false⟩ = writeC o := rfl
  rw [hwc] at hC
  have B3 := Lib.hid (B2.out.trans (hB.mono (Nat.le_succ _)))
  have Q3 : OAt w2 w.heap.size o (.slice A n cp) := (hB.block _ (by omega)).trans Q2.out
  have hq3 : w.heap.size < w2.heap.size := blk_lt Q3
  have hgl : w1.heap.size < w2.heap.size := by have := hB.size; rw [hz2] at this; omega
  obtain ⟨hk, _⟩ := hC
  clear hB C2 B2 Q2 hwc hz2 hvd hvl f5 x5
  cases hm : o.only.may with
  | false =>
    have hb := hlaw.out.2 hm
    obtain ⟨_, q0, q1, q2, q3, q4⟩ := hk.cells
    rw [hb] at q4
    have HOut : Hid (out = []) := by show _ = _; rw [HO.out]; unfold Od.out; rw [hm]; rfl
    have HMy : Hid (my = false) := by show _ = _; rw [HM.out, may_eq, hm]; rfl
    clear hk hb hlaw q0 q1 q2 q3
    go_wp2_with fail
    go_ret2
    exact ⟨by rw [HOut.out, HMy.out]; rfl, B3.out⟩
  | true =>
    obtain ⟨hwc, hkd⟩ := hlaw.out.1 hm
    rw [hwc] at hk
    obtain ⟨_, q0, q1, q2, q3, q4⟩ := hk.cells
    have hel := enc_len o hm
    have hre : readC o.enc = ⟨o.only, o.enc, o.enc.length, true, false⟩ := by
      have h := readC_enc o.only hm (only_lv o HW.out.2.2.2.2.2.1) []
      rw [List.append_nil, enc_only o hkd] at h
      exact h
    have HOut : Hid (out = o.enc) := by show _ = _; rw [HO.out]; unfold Od.out; rw [hm]; rfl
    have HMy : Hid (my = decide (o.only = o)) := by show _ = _; rw [HM.out, may_eq, hm, Bool.true_and]; exact decide_eq_decide.2 ⟨fun h => h.symm, fun h => h.symm⟩
    have RD := Lib.hid (read_any o.enc w2 (by omega))
    rw [hre] at RD
    have K3 : KAt w2 w1.heap.size (w.heap.size + 1) ⟨o, o.enc, 0, false, false⟩ := hk
    clear hk hlaw hwc hkd hre q0 q2 q3 HO HM
    obtain ⟨p, hp⟩ : ∃ p, p = o.only := ⟨_, rfl⟩
    rw [← hp] at RD HMy hm
    have HR : Hid (p.rows.length ≤ 488) := by
      unfold Od.may at hm
      rw [Bool.and_eq_true, Bool.and_eq_true, decide_eq_true_eq, decide_eq_true_eq] at hm
      exact hm.2.1.2.2.2.2
    have hee : ((o.enc.length : Int) == (o.enc.length : Int)) = true := by simp
    have hes : (⟨o.enc.toArray⟩ : ByteArray).size = o.enc.length := by simp [ByteArray.size]
    clear hp hm Q2 B0 s0 hel
    go_wp2_with fail
    refine RD.out.mono ?_
    rintro e w3 ⟨sv', rfl, ht', hb⟩
    have P3 := Q3.below hb
    have K4 := K3.below hb
    have hz3 : w2.heap.size ≤ w3.heap.size := hb.size
    have B4 := Lib.hid (B3.out.trans (hb.mono (by omega)))
    have X3 := OAt.new w3 p sv'
    have HSM := Lib.hid fun W (hB : Below w3.heap.size w3 W) (hB2 : Below w.heap.size w W) => opSame_any p o sv' (.slice A n cp) W (ht'.below hB) (HT.out W hB2) (by have := HR.out; omega) (by have := HS.out.2.1; omega)
    obtain ⟨b', c', rfl, _⟩ := ht'
    unfold odV at HSM ⊢
    clear RD Q3 K3 hb HCL
    obtain ⟨m, hm⟩ : ∃ m, m = p.rows.length := ⟨_, rfl⟩
    rw [← hm] at X3 HSM ⊢
    clear hm
    have P4 := P3.below (alloc_below w3 (.cells #[.int .u8 p.kind, .int .u32 p.page, .int .i64 p.at_, .int .i64 p.off, .string ⟨p.text.toArray⟩, .slice b' m c', .int .u8 p.pk, .int .u8 p.lv, .int .u32 p.nx] 28))
    have K5 := K4.below (alloc_below w3 (.cells #[.int .u8 p.kind, .int .u32 p.page, .int .i64 p.at_, .int .i64 p.off, .string ⟨p.text.toArray⟩, .slice b' m c', .int .u8 p.pk, .int .u8 p.lv, .int .u32 p.nx] 28))
    have B5 := Lib.hid (B4.out.alloc (by omega) (.cells #[.int .u8 p.kind, .int .u32 p.page, .int .i64 p.at_, .int .i64 p.off, .string ⟨p.text.toArray⟩, .slice b' m c', .int .u8 p.pk, .int .u8 p.lv, .int .u32 p.nx] 28))
    have A5 := Lib.hid (alloc_below w3 (.cells #[.int .u8 p.kind, .int .u32 p.page, .int .i64 p.at_, .int .i64 p.off, .string ⟨p.text.toArray⟩, .slice b' m c', .int .u8 p.pk, .int .u8 p.lv, .int .u32 p.nx] 28))
    go_upto_region 8 with fail
    generalize w3.alloc (.cells #[.int .u8 p.kind, .int .u32 p.page, .int .i64 p.at_, .int .i64 p.off, .string ⟨p.text.toArray⟩, .slice b' m c', .int .u8 p.pk, .int .u8 p.lv, .int .u32 p.nx] 28) = w4 at *
    have D5 := Lib.hid B5.out.drew
    have E5 := Lib.hid A5.out.drew
    have D1 : Hid (Below w4.heap.size w4 w4.drew) := Lib.hid ((Below.refl _ _).drew)
    obtain ⟨x0, x1, x2, x3, x4, x5, x6, x7, x8⟩ := X3.cells
    obtain ⟨y0, y1, y2, y3, y4, y5, y6, y7, y8⟩ := P4.cells
    have k1 := K5.cells.2.2.1
    have KC := Lib.hid fun W (hW : Below w4.heap.size w4 W) => (⟨keep_cell hW k1, keep_cell hW x0, keep_cell hW x1, keep_cell hW x2, keep_cell hW x3, keep_cell hW x4, keep_cell hW x5, keep_cell hW x6, keep_cell hW x7, keep_cell hW x8, keep_cell hW y0, keep_cell hW y1, keep_cell hW y2, keep_cell hW y3, keep_cell hW y4, keep_cell hW y5, keep_cell hW y6, keep_cell hW y7, keep_cell hW y8⟩ : W.cell? ⟨w1.heap.size, 1, none⟩ = some (.string ⟨o.enc.toArray⟩) ∧ W.cell? ⟨w3.heap.size, 0, none⟩ = some (.int .u8 p.kind) ∧ W.cell? ⟨w3.heap.size, 1, none⟩ = some (.int .u32 p.page) ∧ W.cell? ⟨w3.heap.size, 2, none⟩ = some (.int .i64 p.at_) ∧ W.cell? ⟨w3.heap.size, 3, none⟩ = some (.int .i64 p.off) ∧ W.cell? ⟨w3.heap.size, 4, none⟩ = some (.string ⟨p.text.toArray⟩) ∧ W.cell? ⟨w3.heap.size, 5, none⟩ = some ((.slice b' m c')) ∧ W.cell? ⟨w3.heap.size, 6, none⟩ = some (.int .u8 p.pk) ∧ W.cell? ⟨w3.heap.size, 7, none⟩ = some (.int .u8 p.lv) ∧ W.cell? ⟨w3.heap.size, 8, none⟩ = some (.int .u32 p.nx) ∧ W.cell? ⟨w.heap.size, 0, none⟩ = some (.int .u8 o.kind) ∧ W.cell? ⟨w.heap.size, 1, none⟩ = some (.int .u32 o.page) ∧ W.cell? ⟨w.heap.size, 2, none⟩ = some (.int .i64 o.at_) ∧ W.cell? ⟨w.heap.size, 3, none⟩ = some (.int .i64 o.off) ∧ W.cell? ⟨w.heap.size, 4, none⟩ = some (.string ⟨o.text.toArray⟩) ∧ W.cell? ⟨w.heap.size, 5, none⟩ = some ((.slice A n cp)) ∧ W.cell? ⟨w.heap.size, 6, none⟩ = some (.int .u8 o.pk) ∧ W.cell? ⟨w.heap.size, 7, none⟩ = some (.int .u8 o.lv) ∧ W.cell? ⟨w.heap.size, 8, none⟩ = some (.int .u32 o.nx))
    clear q1 q4 P3 K4 X3 P4 K5
    clear x0 x1 x2 x3 x4 x5 x6 x7 x8 y0 y1 y2 y3 y4 y5 y6 y7 y8 k1
    go_region_held3 (fun W => W.cell? ⟨w1.heap.size, 1, none⟩ = some (.string ⟨o.enc.toArray⟩) ∧ W.cell? ⟨w3.heap.size, 0, none⟩ = some (.int .u8 p.kind) ∧ W.cell? ⟨w3.heap.size, 1, none⟩ = some (.int .u32 p.page) ∧ W.cell? ⟨w3.heap.size, 2, none⟩ = some (.int .i64 p.at_) ∧ W.cell? ⟨w3.heap.size, 3, none⟩ = some (.int .i64 p.off) ∧ W.cell? ⟨w3.heap.size, 4, none⟩ = some (.string ⟨p.text.toArray⟩) ∧ W.cell? ⟨w3.heap.size, 5, none⟩ = some ((.slice b' m c')) ∧ W.cell? ⟨w3.heap.size, 6, none⟩ = some (.int .u8 p.pk) ∧ W.cell? ⟨w3.heap.size, 7, none⟩ = some (.int .u8 p.lv) ∧ W.cell? ⟨w3.heap.size, 8, none⟩ = some (.int .u32 p.nx) ∧ W.cell? ⟨w.heap.size, 0, none⟩ = some (.int .u8 o.kind) ∧ W.cell? ⟨w.heap.size, 1, none⟩ = some (.int .u32 o.page) ∧ W.cell? ⟨w.heap.size, 2, none⟩ = some (.int .i64 o.at_) ∧ W.cell? ⟨w.heap.size, 3, none⟩ = some (.int .i64 o.off) ∧ W.cell? ⟨w.heap.size, 4, none⟩ = some (.string ⟨o.text.toArray⟩) ∧ W.cell? ⟨w.heap.size, 5, none⟩ = some ((.slice A n cp)) ∧ W.cell? ⟨w.heap.size, 6, none⟩ = some (.int .u8 o.pk) ∧ W.cell? ⟨w.heap.size, 7, none⟩ = some (.int .u8 o.lv) ∧ W.cell? ⟨w.heap.size, 8, none⟩ = some (.int .u32 o.nx))
      (first
        | (with_reducible exact KC.out _ D1.out)
        | (with_reducible exact KC.out _ hb)
        | exact KC.out _ D1.out)
      (first
        | (go_at_call 183; refine (HSM.out _ E5.out D5.out).mono ?_; rintro e w5 ⟨rfl, hb0⟩; have hb := below_then D1.out hb0; clear hb0))
    have B6 := Lib.hid (B5.out.trans (hb.mono (by have := B5.out.size; omega)))
    go_wp2_with fail
    go_ret2
    exact ⟨by rw [HOut.out, HMy.out]; rfl, B6.out⟩

end Go.Proofs.Ytienlhnbmobinaa
